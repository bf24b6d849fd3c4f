/- The reference's folding and words: what the calls return. -/
import Derived.Test.YtogpghpgnpoioaaGreatDoorKa
import Derived.Test.YtogpghpgnpoioaaGreatDoorKf
import Derived.Test.YtogpghpgnpoioaaGreatDoorKb
import Derived.Test.YtogpghpgnpoioaaGreatDoorKh
import Derived.Test.YtogpghpgnpoioaaGreatDoorKe
import Derived.Laws.OwnMore
namespace Go.Proofs.YtogpghpgnpoioaaGreatDoor
open Go.RowKit
set_option maxRecDepth 100000

set_option maxHeartbeats 800000 in
theorem fold_0_c (n : Int) (w : World) (h : 0 ≤ n ∧ n ≤ 64) :
    Calls Tryz.prog 145 #[.int .i64 n] w fun e w' => e = .returned (.string ⟨#[]⟩) ∧ w = w' := by
  have t0 : n < 65 := by omega
  have t1 : n < 192 := by omega
  clear h
  go_enter Tryz.func145, Tryz.ntmps145
  go_wp2
  go_ret
  exact ⟨rfl, rfl⟩
set_option maxHeartbeats 800000 in
theorem fold_91_c (n : Int) (w : World) (h : 91 ≤ n ∧ n ≤ 191) :
    Calls Tryz.prog 145 #[.int .i64 n] w fun e w' => e = .returned (.string ⟨#[]⟩) ∧ w = w' := by
  have t0 : (65 : Int) ≤ n := by omega
  have t1 : (90 : Int) < n := by omega
  have t2 : n < 192 := by omega
  clear h
  go_enter Tryz.func145, Tryz.ntmps145
  go_wp2
  go_ret
  exact ⟨rfl, rfl⟩
set_option maxHeartbeats 800000 in
theorem fold_256_c (n : Int) (w : World) (h : 256 ≤ n ∧ n ≤ 1000000000) :
    Calls Tryz.prog 145 #[.int .i64 n] w fun e w' => e = .returned (.string ⟨#[]⟩) ∧ w = w' := by
  have t0 : (65 : Int) ≤ n := by omega
  have t1 : (90 : Int) < n := by omega
  have t2 : (192 : Int) ≤ n := by omega
  have t3 : (255 : Int) < n := by omega
  clear h
  go_enter Tryz.func145, Tryz.ntmps145
  go_wp2
  go_ret
  exact ⟨rfl, rfl⟩
set_option maxHeartbeats 800000 in
theorem fold_215_c (n : Int) (w : World) (h : 215 ≤ n ∧ n ≤ 215) :
    Calls Tryz.prog 145 #[.int .i64 n] w fun e w' => e = .returned (.string ⟨#[]⟩) ∧ w = w' := by
  have t0 : (65 : Int) ≤ n := by omega
  have t1 : (90 : Int) < n := by omega
  have t2 : (192 : Int) ≤ n := by omega
  have t3 : n ≤ 255 := by omega
  have t4 : (n == (215 : Int)) = true := by simp; omega
  clear h
  go_enter Tryz.func145, Tryz.ntmps145
  go_wp2
  go_ret
  exact ⟨rfl, rfl⟩
set_option maxHeartbeats 800000 in
theorem fold_247_c (n : Int) (w : World) (h : 247 ≤ n ∧ n ≤ 247) :
    Calls Tryz.prog 145 #[.int .i64 n] w fun e w' => e = .returned (.string ⟨#[]⟩) ∧ w = w' := by
  have t0 : (65 : Int) ≤ n := by omega
  have t1 : (90 : Int) < n := by omega
  have t2 : (192 : Int) ≤ n := by omega
  have t3 : n ≤ 255 := by omega
  have t4 : (n == (215 : Int)) = false := by simp; omega
  have t5 : (n == (247 : Int)) = true := by simp; omega
  clear h
  go_enter Tryz.func145, Tryz.ntmps145
  go_wp2
  go_ret
  exact ⟨rfl, rfl⟩
set_option maxHeartbeats 800000 in
theorem fold_223_c (n : Int) (w : World) (h : 223 ≤ n ∧ n ≤ 223) :
    Calls Tryz.prog 145 #[.int .i64 n] w fun e w' => e = .returned (.string ⟨#[115, 115]⟩) ∧ w = w' := by
  have t0 : (65 : Int) ≤ n := by omega
  have t1 : (90 : Int) < n := by omega
  have t2 : (192 : Int) ≤ n := by omega
  have t3 : n ≤ 255 := by omega
  have t4 : (n == (215 : Int)) = false := by simp; omega
  have t5 : (n == (247 : Int)) = false := by simp; omega
  have t6 : (n == (223 : Int)) = true := by simp; omega
  clear h
  go_enter Tryz.func145, Tryz.ntmps145
  go_wp2
  go_ret
  exact ⟨rfl, rfl⟩
set_option maxHeartbeats 800000 in
theorem fold_255_c (n : Int) (w : World) (h : 255 ≤ n ∧ n ≤ 255) :
    Calls Tryz.prog 145 #[.int .i64 n] w fun e w' => e = .returned (.string ⟨#[121]⟩) ∧ w = w' := by
  have t0 : (65 : Int) ≤ n := by omega
  have t1 : (90 : Int) < n := by omega
  have t2 : (192 : Int) ≤ n := by omega
  have t3 : n ≤ 255 := by omega
  have t4 : (n == (215 : Int)) = false := by simp; omega
  have t5 : (n == (247 : Int)) = false := by simp; omega
  have t6 : (n == (223 : Int)) = false := by simp; omega
  have t7 : (n == (255 : Int)) = true := by simp; omega
  clear h
  go_enter Tryz.func145, Tryz.ntmps145
  go_wp2
  go_ret
  exact ⟨rfl, rfl⟩
set_option maxHeartbeats 800000 in
theorem fold_192_c (n : Int) (w : World) (h : 192 ≤ n ∧ n ≤ 197) :
    Calls Tryz.prog 145 #[.int .i64 n] w fun e w' => e = .returned (.string ⟨#[97]⟩) ∧ w = w' := by
  have t0 : (65 : Int) ≤ n := by omega
  have t1 : (90 : Int) < n := by omega
  have t2 : (192 : Int) ≤ n := by omega
  have t3 : n ≤ 255 := by omega
  have t4 : (n == (215 : Int)) = false := by simp; omega
  have t5 : (n == (247 : Int)) = false := by simp; omega
  have t6 : (n == (223 : Int)) = false := by simp; omega
  have t7 : (n == (255 : Int)) = false := by simp; omega
  have t8 : n < 224 := by omega
  have t9 : n ≤ 197 := by omega
  clear h
  go_enter Tryz.func145, Tryz.ntmps145
  go_wp2
  go_ret
  exact ⟨rfl, rfl⟩
set_option maxHeartbeats 800000 in
theorem fold_198_c (n : Int) (w : World) (h : 198 ≤ n ∧ n ≤ 198) :
    Calls Tryz.prog 145 #[.int .i64 n] w fun e w' => e = .returned (.string ⟨#[97, 101]⟩) ∧ w = w' := by
  have t0 : (65 : Int) ≤ n := by omega
  have t1 : (90 : Int) < n := by omega
  have t2 : (192 : Int) ≤ n := by omega
  have t3 : n ≤ 255 := by omega
  have t4 : (n == (215 : Int)) = false := by simp; omega
  have t5 : (n == (247 : Int)) = false := by simp; omega
  have t6 : (n == (223 : Int)) = false := by simp; omega
  have t7 : (n == (255 : Int)) = false := by simp; omega
  have t8 : n < 224 := by omega
  have t9 : (197 : Int) < n := by omega
  have t10 : (n == (198 : Int)) = true := by simp; omega
  clear h
  go_enter Tryz.func145, Tryz.ntmps145
  go_wp2
  go_ret
  exact ⟨rfl, rfl⟩
set_option maxHeartbeats 800000 in
theorem fold_199_c (n : Int) (w : World) (h : 199 ≤ n ∧ n ≤ 199) :
    Calls Tryz.prog 145 #[.int .i64 n] w fun e w' => e = .returned (.string ⟨#[99]⟩) ∧ w = w' := by
  have t0 : (65 : Int) ≤ n := by omega
  have t1 : (90 : Int) < n := by omega
  have t2 : (192 : Int) ≤ n := by omega
  have t3 : n ≤ 255 := by omega
  have t4 : (n == (215 : Int)) = false := by simp; omega
  have t5 : (n == (247 : Int)) = false := by simp; omega
  have t6 : (n == (223 : Int)) = false := by simp; omega
  have t7 : (n == (255 : Int)) = false := by simp; omega
  have t8 : n < 224 := by omega
  have t9 : (197 : Int) < n := by omega
  have t10 : (n == (198 : Int)) = false := by simp; omega
  have t11 : (n == (199 : Int)) = true := by simp; omega
  clear h
  go_enter Tryz.func145, Tryz.ntmps145
  go_wp2
  go_ret
  exact ⟨rfl, rfl⟩
set_option maxHeartbeats 800000 in
theorem fold_200_c (n : Int) (w : World) (h : 200 ≤ n ∧ n ≤ 203) :
    Calls Tryz.prog 145 #[.int .i64 n] w fun e w' => e = .returned (.string ⟨#[101]⟩) ∧ w = w' := by
  have t0 : (65 : Int) ≤ n := by omega
  have t1 : (90 : Int) < n := by omega
  have t2 : (192 : Int) ≤ n := by omega
  have t3 : n ≤ 255 := by omega
  have t4 : (n == (215 : Int)) = false := by simp; omega
  have t5 : (n == (247 : Int)) = false := by simp; omega
  have t6 : (n == (223 : Int)) = false := by simp; omega
  have t7 : (n == (255 : Int)) = false := by simp; omega
  have t8 : n < 224 := by omega
  have t9 : (197 : Int) < n := by omega
  have t10 : (n == (198 : Int)) = false := by simp; omega
  have t11 : (n == (199 : Int)) = false := by simp; omega
  have t12 : n ≤ 203 := by omega
  clear h
  go_enter Tryz.func145, Tryz.ntmps145
  go_wp2
  go_ret
  exact ⟨rfl, rfl⟩
set_option maxHeartbeats 800000 in
theorem fold_204_c (n : Int) (w : World) (h : 204 ≤ n ∧ n ≤ 207) :
    Calls Tryz.prog 145 #[.int .i64 n] w fun e w' => e = .returned (.string ⟨#[105]⟩) ∧ w = w' := by
  have t0 : (65 : Int) ≤ n := by omega
  have t1 : (90 : Int) < n := by omega
  have t2 : (192 : Int) ≤ n := by omega
  have t3 : n ≤ 255 := by omega
  have t4 : (n == (215 : Int)) = false := by simp; omega
  have t5 : (n == (247 : Int)) = false := by simp; omega
  have t6 : (n == (223 : Int)) = false := by simp; omega
  have t7 : (n == (255 : Int)) = false := by simp; omega
  have t8 : n < 224 := by omega
  have t9 : (197 : Int) < n := by omega
  have t10 : (n == (198 : Int)) = false := by simp; omega
  have t11 : (n == (199 : Int)) = false := by simp; omega
  have t12 : (203 : Int) < n := by omega
  have t13 : n ≤ 207 := by omega
  clear h
  go_enter Tryz.func145, Tryz.ntmps145
  go_wp2
  go_ret
  exact ⟨rfl, rfl⟩
set_option maxHeartbeats 800000 in
theorem fold_208_c (n : Int) (w : World) (h : 208 ≤ n ∧ n ≤ 208) :
    Calls Tryz.prog 145 #[.int .i64 n] w fun e w' => e = .returned (.string ⟨#[100]⟩) ∧ w = w' := by
  have t0 : (65 : Int) ≤ n := by omega
  have t1 : (90 : Int) < n := by omega
  have t2 : (192 : Int) ≤ n := by omega
  have t3 : n ≤ 255 := by omega
  have t4 : (n == (215 : Int)) = false := by simp; omega
  have t5 : (n == (247 : Int)) = false := by simp; omega
  have t6 : (n == (223 : Int)) = false := by simp; omega
  have t7 : (n == (255 : Int)) = false := by simp; omega
  have t8 : n < 224 := by omega
  have t9 : (197 : Int) < n := by omega
  have t10 : (n == (198 : Int)) = false := by simp; omega
  have t11 : (n == (199 : Int)) = false := by simp; omega
  have t12 : (203 : Int) < n := by omega
  have t13 : (207 : Int) < n := by omega
  have t14 : (n == (208 : Int)) = true := by simp; omega
  clear h
  go_enter Tryz.func145, Tryz.ntmps145
  go_wp2
  go_ret
  exact ⟨rfl, rfl⟩
set_option maxHeartbeats 800000 in
theorem fold_209_c (n : Int) (w : World) (h : 209 ≤ n ∧ n ≤ 209) :
    Calls Tryz.prog 145 #[.int .i64 n] w fun e w' => e = .returned (.string ⟨#[110]⟩) ∧ w = w' := by
  have t0 : (65 : Int) ≤ n := by omega
  have t1 : (90 : Int) < n := by omega
  have t2 : (192 : Int) ≤ n := by omega
  have t3 : n ≤ 255 := by omega
  have t4 : (n == (215 : Int)) = false := by simp; omega
  have t5 : (n == (247 : Int)) = false := by simp; omega
  have t6 : (n == (223 : Int)) = false := by simp; omega
  have t7 : (n == (255 : Int)) = false := by simp; omega
  have t8 : n < 224 := by omega
  have t9 : (197 : Int) < n := by omega
  have t10 : (n == (198 : Int)) = false := by simp; omega
  have t11 : (n == (199 : Int)) = false := by simp; omega
  have t12 : (203 : Int) < n := by omega
  have t13 : (207 : Int) < n := by omega
  have t14 : (n == (208 : Int)) = false := by simp; omega
  have t15 : (n == (209 : Int)) = true := by simp; omega
  clear h
  go_enter Tryz.func145, Tryz.ntmps145
  go_wp2
  go_ret
  exact ⟨rfl, rfl⟩
set_option maxHeartbeats 800000 in
theorem fold_210_c (n : Int) (w : World) (h : 210 ≤ n ∧ n ≤ 214) :
    Calls Tryz.prog 145 #[.int .i64 n] w fun e w' => e = .returned (.string ⟨#[111]⟩) ∧ w = w' := by
  have t0 : (65 : Int) ≤ n := by omega
  have t1 : (90 : Int) < n := by omega
  have t2 : (192 : Int) ≤ n := by omega
  have t3 : n ≤ 255 := by omega
  have t4 : (n == (215 : Int)) = false := by simp; omega
  have t5 : (n == (247 : Int)) = false := by simp; omega
  have t6 : (n == (223 : Int)) = false := by simp; omega
  have t7 : (n == (255 : Int)) = false := by simp; omega
  have t8 : n < 224 := by omega
  have t9 : (197 : Int) < n := by omega
  have t10 : (n == (198 : Int)) = false := by simp; omega
  have t11 : (n == (199 : Int)) = false := by simp; omega
  have t12 : (203 : Int) < n := by omega
  have t13 : (207 : Int) < n := by omega
  have t14 : (n == (208 : Int)) = false := by simp; omega
  have t15 : (n == (209 : Int)) = false := by simp; omega
  have t16 : n ≤ 216 := by omega
  clear h
  go_enter Tryz.func145, Tryz.ntmps145
  go_wp2
  go_ret
  exact ⟨rfl, rfl⟩
set_option maxHeartbeats 800000 in
theorem fold_216_c (n : Int) (w : World) (h : 216 ≤ n ∧ n ≤ 216) :
    Calls Tryz.prog 145 #[.int .i64 n] w fun e w' => e = .returned (.string ⟨#[111]⟩) ∧ w = w' := by
  have t0 : (65 : Int) ≤ n := by omega
  have t1 : (90 : Int) < n := by omega
  have t2 : (192 : Int) ≤ n := by omega
  have t3 : n ≤ 255 := by omega
  have t4 : (n == (215 : Int)) = false := by simp; omega
  have t5 : (n == (247 : Int)) = false := by simp; omega
  have t6 : (n == (223 : Int)) = false := by simp; omega
  have t7 : (n == (255 : Int)) = false := by simp; omega
  have t8 : n < 224 := by omega
  have t9 : (197 : Int) < n := by omega
  have t10 : (n == (198 : Int)) = false := by simp; omega
  have t11 : (n == (199 : Int)) = false := by simp; omega
  have t12 : (203 : Int) < n := by omega
  have t13 : (207 : Int) < n := by omega
  have t14 : (n == (208 : Int)) = false := by simp; omega
  have t15 : (n == (209 : Int)) = false := by simp; omega
  have t16 : n ≤ 216 := by omega
  clear h
  go_enter Tryz.func145, Tryz.ntmps145
  go_wp2
  go_ret
  exact ⟨rfl, rfl⟩
set_option maxHeartbeats 800000 in
theorem fold_217_c (n : Int) (w : World) (h : 217 ≤ n ∧ n ≤ 220) :
    Calls Tryz.prog 145 #[.int .i64 n] w fun e w' => e = .returned (.string ⟨#[117]⟩) ∧ w = w' := by
  have t0 : (65 : Int) ≤ n := by omega
  have t1 : (90 : Int) < n := by omega
  have t2 : (192 : Int) ≤ n := by omega
  have t3 : n ≤ 255 := by omega
  have t4 : (n == (215 : Int)) = false := by simp; omega
  have t5 : (n == (247 : Int)) = false := by simp; omega
  have t6 : (n == (223 : Int)) = false := by simp; omega
  have t7 : (n == (255 : Int)) = false := by simp; omega
  have t8 : n < 224 := by omega
  have t9 : (197 : Int) < n := by omega
  have t10 : (n == (198 : Int)) = false := by simp; omega
  have t11 : (n == (199 : Int)) = false := by simp; omega
  have t12 : (203 : Int) < n := by omega
  have t13 : (207 : Int) < n := by omega
  have t14 : (n == (208 : Int)) = false := by simp; omega
  have t15 : (n == (209 : Int)) = false := by simp; omega
  have t16 : (216 : Int) < n := by omega
  have t17 : n ≤ 220 := by omega
  clear h
  go_enter Tryz.func145, Tryz.ntmps145
  go_wp2
  go_ret
  exact ⟨rfl, rfl⟩
set_option maxHeartbeats 800000 in
theorem fold_221_c (n : Int) (w : World) (h : 221 ≤ n ∧ n ≤ 221) :
    Calls Tryz.prog 145 #[.int .i64 n] w fun e w' => e = .returned (.string ⟨#[121]⟩) ∧ w = w' := by
  have t0 : (65 : Int) ≤ n := by omega
  have t1 : (90 : Int) < n := by omega
  have t2 : (192 : Int) ≤ n := by omega
  have t3 : n ≤ 255 := by omega
  have t4 : (n == (215 : Int)) = false := by simp; omega
  have t5 : (n == (247 : Int)) = false := by simp; omega
  have t6 : (n == (223 : Int)) = false := by simp; omega
  have t7 : (n == (255 : Int)) = false := by simp; omega
  have t8 : n < 224 := by omega
  have t9 : (197 : Int) < n := by omega
  have t10 : (n == (198 : Int)) = false := by simp; omega
  have t11 : (n == (199 : Int)) = false := by simp; omega
  have t12 : (203 : Int) < n := by omega
  have t13 : (207 : Int) < n := by omega
  have t14 : (n == (208 : Int)) = false := by simp; omega
  have t15 : (n == (209 : Int)) = false := by simp; omega
  have t16 : (216 : Int) < n := by omega
  have t17 : (220 : Int) < n := by omega
  have t18 : (n == (221 : Int)) = true := by simp; omega
  clear h
  go_enter Tryz.func145, Tryz.ntmps145
  go_wp2
  go_ret
  exact ⟨rfl, rfl⟩
set_option maxHeartbeats 800000 in
theorem fold_222_c (n : Int) (w : World) (h : 222 ≤ n ∧ n ≤ 222) :
    Calls Tryz.prog 145 #[.int .i64 n] w fun e w' => e = .returned (.string ⟨#[116, 104]⟩) ∧ w = w' := by
  have t0 : (65 : Int) ≤ n := by omega
  have t1 : (90 : Int) < n := by omega
  have t2 : (192 : Int) ≤ n := by omega
  have t3 : n ≤ 255 := by omega
  have t4 : (n == (215 : Int)) = false := by simp; omega
  have t5 : (n == (247 : Int)) = false := by simp; omega
  have t6 : (n == (223 : Int)) = false := by simp; omega
  have t7 : (n == (255 : Int)) = false := by simp; omega
  have t8 : n < 224 := by omega
  have t9 : (197 : Int) < n := by omega
  have t10 : (n == (198 : Int)) = false := by simp; omega
  have t11 : (n == (199 : Int)) = false := by simp; omega
  have t12 : (203 : Int) < n := by omega
  have t13 : (207 : Int) < n := by omega
  have t14 : (n == (208 : Int)) = false := by simp; omega
  have t15 : (n == (209 : Int)) = false := by simp; omega
  have t16 : (216 : Int) < n := by omega
  have t17 : (220 : Int) < n := by omega
  have t18 : (n == (221 : Int)) = false := by simp; omega
  clear h
  go_enter Tryz.func145, Tryz.ntmps145
  go_wp2
  go_ret
  exact ⟨rfl, rfl⟩
set_option maxHeartbeats 800000 in
theorem fold_224_c (n : Int) (w : World) (h : 224 ≤ n ∧ n ≤ 229) :
    Calls Tryz.prog 145 #[.int .i64 n] w fun e w' => e = .returned (.string ⟨#[97]⟩) ∧ w = w' := by
  obtain ⟨m, hm⟩ : ∃ m, n - 32 = m := ⟨_, rfl⟩
  have hw : IntKind.i64.wrap (n - 32) = m := by rw [IntKind.wrap_i64]; omega
  have t0 : (65 : Int) ≤ n := by omega
  have t1 : (90 : Int) < n := by omega
  have t2 : (192 : Int) ≤ n := by omega
  have t3 : n ≤ 255 := by omega
  have t4 : (n == (215 : Int)) = false := by simp; omega
  have t5 : (n == (247 : Int)) = false := by simp; omega
  have t6 : (n == (223 : Int)) = false := by simp; omega
  have t7 : (n == (255 : Int)) = false := by simp; omega
  have t8 : (224 : Int) ≤ n := by omega
  have t9 : m ≤ 197 := by omega
  clear h hm
  go_enter Tryz.func145, Tryz.ntmps145
  go_wp2
  go_ret
  exact ⟨rfl, rfl⟩
set_option maxHeartbeats 800000 in
theorem fold_230_c (n : Int) (w : World) (h : 230 ≤ n ∧ n ≤ 230) :
    Calls Tryz.prog 145 #[.int .i64 n] w fun e w' => e = .returned (.string ⟨#[97, 101]⟩) ∧ w = w' := by
  obtain ⟨m, hm⟩ : ∃ m, n - 32 = m := ⟨_, rfl⟩
  have hw : IntKind.i64.wrap (n - 32) = m := by rw [IntKind.wrap_i64]; omega
  have t0 : (65 : Int) ≤ n := by omega
  have t1 : (90 : Int) < n := by omega
  have t2 : (192 : Int) ≤ n := by omega
  have t3 : n ≤ 255 := by omega
  have t4 : (n == (215 : Int)) = false := by simp; omega
  have t5 : (n == (247 : Int)) = false := by simp; omega
  have t6 : (n == (223 : Int)) = false := by simp; omega
  have t7 : (n == (255 : Int)) = false := by simp; omega
  have t8 : (224 : Int) ≤ n := by omega
  have t9 : (197 : Int) < m := by omega
  have t10 : (m == (198 : Int)) = true := by simp; omega
  clear h hm
  go_enter Tryz.func145, Tryz.ntmps145
  go_wp2
  go_ret
  exact ⟨rfl, rfl⟩
set_option maxHeartbeats 800000 in
theorem fold_231_c (n : Int) (w : World) (h : 231 ≤ n ∧ n ≤ 231) :
    Calls Tryz.prog 145 #[.int .i64 n] w fun e w' => e = .returned (.string ⟨#[99]⟩) ∧ w = w' := by
  obtain ⟨m, hm⟩ : ∃ m, n - 32 = m := ⟨_, rfl⟩
  have hw : IntKind.i64.wrap (n - 32) = m := by rw [IntKind.wrap_i64]; omega
  have t0 : (65 : Int) ≤ n := by omega
  have t1 : (90 : Int) < n := by omega
  have t2 : (192 : Int) ≤ n := by omega
  have t3 : n ≤ 255 := by omega
  have t4 : (n == (215 : Int)) = false := by simp; omega
  have t5 : (n == (247 : Int)) = false := by simp; omega
  have t6 : (n == (223 : Int)) = false := by simp; omega
  have t7 : (n == (255 : Int)) = false := by simp; omega
  have t8 : (224 : Int) ≤ n := by omega
  have t9 : (197 : Int) < m := by omega
  have t10 : (m == (198 : Int)) = false := by simp; omega
  have t11 : (m == (199 : Int)) = true := by simp; omega
  clear h hm
  go_enter Tryz.func145, Tryz.ntmps145
  go_wp2
  go_ret
  exact ⟨rfl, rfl⟩
set_option maxHeartbeats 800000 in
theorem fold_232_c (n : Int) (w : World) (h : 232 ≤ n ∧ n ≤ 235) :
    Calls Tryz.prog 145 #[.int .i64 n] w fun e w' => e = .returned (.string ⟨#[101]⟩) ∧ w = w' := by
  obtain ⟨m, hm⟩ : ∃ m, n - 32 = m := ⟨_, rfl⟩
  have hw : IntKind.i64.wrap (n - 32) = m := by rw [IntKind.wrap_i64]; omega
  have t0 : (65 : Int) ≤ n := by omega
  have t1 : (90 : Int) < n := by omega
  have t2 : (192 : Int) ≤ n := by omega
  have t3 : n ≤ 255 := by omega
  have t4 : (n == (215 : Int)) = false := by simp; omega
  have t5 : (n == (247 : Int)) = false := by simp; omega
  have t6 : (n == (223 : Int)) = false := by simp; omega
  have t7 : (n == (255 : Int)) = false := by simp; omega
  have t8 : (224 : Int) ≤ n := by omega
  have t9 : (197 : Int) < m := by omega
  have t10 : (m == (198 : Int)) = false := by simp; omega
  have t11 : (m == (199 : Int)) = false := by simp; omega
  have t12 : m ≤ 203 := by omega
  clear h hm
  go_enter Tryz.func145, Tryz.ntmps145
  go_wp2
  go_ret
  exact ⟨rfl, rfl⟩
set_option maxHeartbeats 800000 in
theorem fold_236_c (n : Int) (w : World) (h : 236 ≤ n ∧ n ≤ 239) :
    Calls Tryz.prog 145 #[.int .i64 n] w fun e w' => e = .returned (.string ⟨#[105]⟩) ∧ w = w' := by
  obtain ⟨m, hm⟩ : ∃ m, n - 32 = m := ⟨_, rfl⟩
  have hw : IntKind.i64.wrap (n - 32) = m := by rw [IntKind.wrap_i64]; omega
  have t0 : (65 : Int) ≤ n := by omega
  have t1 : (90 : Int) < n := by omega
  have t2 : (192 : Int) ≤ n := by omega
  have t3 : n ≤ 255 := by omega
  have t4 : (n == (215 : Int)) = false := by simp; omega
  have t5 : (n == (247 : Int)) = false := by simp; omega
  have t6 : (n == (223 : Int)) = false := by simp; omega
  have t7 : (n == (255 : Int)) = false := by simp; omega
  have t8 : (224 : Int) ≤ n := by omega
  have t9 : (197 : Int) < m := by omega
  have t10 : (m == (198 : Int)) = false := by simp; omega
  have t11 : (m == (199 : Int)) = false := by simp; omega
  have t12 : (203 : Int) < m := by omega
  have t13 : m ≤ 207 := by omega
  clear h hm
  go_enter Tryz.func145, Tryz.ntmps145
  go_wp2
  go_ret
  exact ⟨rfl, rfl⟩
set_option maxHeartbeats 800000 in
theorem fold_240_c (n : Int) (w : World) (h : 240 ≤ n ∧ n ≤ 240) :
    Calls Tryz.prog 145 #[.int .i64 n] w fun e w' => e = .returned (.string ⟨#[100]⟩) ∧ w = w' := by
  obtain ⟨m, hm⟩ : ∃ m, n - 32 = m := ⟨_, rfl⟩
  have hw : IntKind.i64.wrap (n - 32) = m := by rw [IntKind.wrap_i64]; omega
  have t0 : (65 : Int) ≤ n := by omega
  have t1 : (90 : Int) < n := by omega
  have t2 : (192 : Int) ≤ n := by omega
  have t3 : n ≤ 255 := by omega
  have t4 : (n == (215 : Int)) = false := by simp; omega
  have t5 : (n == (247 : Int)) = false := by simp; omega
  have t6 : (n == (223 : Int)) = false := by simp; omega
  have t7 : (n == (255 : Int)) = false := by simp; omega
  have t8 : (224 : Int) ≤ n := by omega
  have t9 : (197 : Int) < m := by omega
  have t10 : (m == (198 : Int)) = false := by simp; omega
  have t11 : (m == (199 : Int)) = false := by simp; omega
  have t12 : (203 : Int) < m := by omega
  have t13 : (207 : Int) < m := by omega
  have t14 : (m == (208 : Int)) = true := by simp; omega
  clear h hm
  go_enter Tryz.func145, Tryz.ntmps145
  go_wp2
  go_ret
  exact ⟨rfl, rfl⟩
set_option maxHeartbeats 800000 in
theorem fold_241_c (n : Int) (w : World) (h : 241 ≤ n ∧ n ≤ 241) :
    Calls Tryz.prog 145 #[.int .i64 n] w fun e w' => e = .returned (.string ⟨#[110]⟩) ∧ w = w' := by
  obtain ⟨m, hm⟩ : ∃ m, n - 32 = m := ⟨_, rfl⟩
  have hw : IntKind.i64.wrap (n - 32) = m := by rw [IntKind.wrap_i64]; omega
  have t0 : (65 : Int) ≤ n := by omega
  have t1 : (90 : Int) < n := by omega
  have t2 : (192 : Int) ≤ n := by omega
  have t3 : n ≤ 255 := by omega
  have t4 : (n == (215 : Int)) = false := by simp; omega
  have t5 : (n == (247 : Int)) = false := by simp; omega
  have t6 : (n == (223 : Int)) = false := by simp; omega
  have t7 : (n == (255 : Int)) = false := by simp; omega
  have t8 : (224 : Int) ≤ n := by omega
  have t9 : (197 : Int) < m := by omega
  have t10 : (m == (198 : Int)) = false := by simp; omega
  have t11 : (m == (199 : Int)) = false := by simp; omega
  have t12 : (203 : Int) < m := by omega
  have t13 : (207 : Int) < m := by omega
  have t14 : (m == (208 : Int)) = false := by simp; omega
  have t15 : (m == (209 : Int)) = true := by simp; omega
  clear h hm
  go_enter Tryz.func145, Tryz.ntmps145
  go_wp2
  go_ret
  exact ⟨rfl, rfl⟩
set_option maxHeartbeats 800000 in
theorem fold_242_c (n : Int) (w : World) (h : 242 ≤ n ∧ n ≤ 246) :
    Calls Tryz.prog 145 #[.int .i64 n] w fun e w' => e = .returned (.string ⟨#[111]⟩) ∧ w = w' := by
  obtain ⟨m, hm⟩ : ∃ m, n - 32 = m := ⟨_, rfl⟩
  have hw : IntKind.i64.wrap (n - 32) = m := by rw [IntKind.wrap_i64]; omega
  have t0 : (65 : Int) ≤ n := by omega
  have t1 : (90 : Int) < n := by omega
  have t2 : (192 : Int) ≤ n := by omega
  have t3 : n ≤ 255 := by omega
  have t4 : (n == (215 : Int)) = false := by simp; omega
  have t5 : (n == (247 : Int)) = false := by simp; omega
  have t6 : (n == (223 : Int)) = false := by simp; omega
  have t7 : (n == (255 : Int)) = false := by simp; omega
  have t8 : (224 : Int) ≤ n := by omega
  have t9 : (197 : Int) < m := by omega
  have t10 : (m == (198 : Int)) = false := by simp; omega
  have t11 : (m == (199 : Int)) = false := by simp; omega
  have t12 : (203 : Int) < m := by omega
  have t13 : (207 : Int) < m := by omega
  have t14 : (m == (208 : Int)) = false := by simp; omega
  have t15 : (m == (209 : Int)) = false := by simp; omega
  have t16 : m ≤ 216 := by omega
  clear h hm
  go_enter Tryz.func145, Tryz.ntmps145
  go_wp2
  go_ret
  exact ⟨rfl, rfl⟩
set_option maxHeartbeats 800000 in
theorem fold_248_c (n : Int) (w : World) (h : 248 ≤ n ∧ n ≤ 248) :
    Calls Tryz.prog 145 #[.int .i64 n] w fun e w' => e = .returned (.string ⟨#[111]⟩) ∧ w = w' := by
  obtain ⟨m, hm⟩ : ∃ m, n - 32 = m := ⟨_, rfl⟩
  have hw : IntKind.i64.wrap (n - 32) = m := by rw [IntKind.wrap_i64]; omega
  have t0 : (65 : Int) ≤ n := by omega
  have t1 : (90 : Int) < n := by omega
  have t2 : (192 : Int) ≤ n := by omega
  have t3 : n ≤ 255 := by omega
  have t4 : (n == (215 : Int)) = false := by simp; omega
  have t5 : (n == (247 : Int)) = false := by simp; omega
  have t6 : (n == (223 : Int)) = false := by simp; omega
  have t7 : (n == (255 : Int)) = false := by simp; omega
  have t8 : (224 : Int) ≤ n := by omega
  have t9 : (197 : Int) < m := by omega
  have t10 : (m == (198 : Int)) = false := by simp; omega
  have t11 : (m == (199 : Int)) = false := by simp; omega
  have t12 : (203 : Int) < m := by omega
  have t13 : (207 : Int) < m := by omega
  have t14 : (m == (208 : Int)) = false := by simp; omega
  have t15 : (m == (209 : Int)) = false := by simp; omega
  have t16 : m ≤ 216 := by omega
  clear h hm
  go_enter Tryz.func145, Tryz.ntmps145
  go_wp2
  go_ret
  exact ⟨rfl, rfl⟩
set_option maxHeartbeats 800000 in
theorem fold_249_c (n : Int) (w : World) (h : 249 ≤ n ∧ n ≤ 252) :
    Calls Tryz.prog 145 #[.int .i64 n] w fun e w' => e = .returned (.string ⟨#[117]⟩) ∧ w = w' := by
  obtain ⟨m, hm⟩ : ∃ m, n - 32 = m := ⟨_, rfl⟩
  have hw : IntKind.i64.wrap (n - 32) = m := by rw [IntKind.wrap_i64]; omega
  have t0 : (65 : Int) ≤ n := by omega
  have t1 : (90 : Int) < n := by omega
  have t2 : (192 : Int) ≤ n := by omega
  have t3 : n ≤ 255 := by omega
  have t4 : (n == (215 : Int)) = false := by simp; omega
  have t5 : (n == (247 : Int)) = false := by simp; omega
  have t6 : (n == (223 : Int)) = false := by simp; omega
  have t7 : (n == (255 : Int)) = false := by simp; omega
  have t8 : (224 : Int) ≤ n := by omega
  have t9 : (197 : Int) < m := by omega
  have t10 : (m == (198 : Int)) = false := by simp; omega
  have t11 : (m == (199 : Int)) = false := by simp; omega
  have t12 : (203 : Int) < m := by omega
  have t13 : (207 : Int) < m := by omega
  have t14 : (m == (208 : Int)) = false := by simp; omega
  have t15 : (m == (209 : Int)) = false := by simp; omega
  have t16 : (216 : Int) < m := by omega
  have t17 : m ≤ 220 := by omega
  clear h hm
  go_enter Tryz.func145, Tryz.ntmps145
  go_wp2
  go_ret
  exact ⟨rfl, rfl⟩
set_option maxHeartbeats 800000 in
theorem fold_253_c (n : Int) (w : World) (h : 253 ≤ n ∧ n ≤ 253) :
    Calls Tryz.prog 145 #[.int .i64 n] w fun e w' => e = .returned (.string ⟨#[121]⟩) ∧ w = w' := by
  obtain ⟨m, hm⟩ : ∃ m, n - 32 = m := ⟨_, rfl⟩
  have hw : IntKind.i64.wrap (n - 32) = m := by rw [IntKind.wrap_i64]; omega
  have t0 : (65 : Int) ≤ n := by omega
  have t1 : (90 : Int) < n := by omega
  have t2 : (192 : Int) ≤ n := by omega
  have t3 : n ≤ 255 := by omega
  have t4 : (n == (215 : Int)) = false := by simp; omega
  have t5 : (n == (247 : Int)) = false := by simp; omega
  have t6 : (n == (223 : Int)) = false := by simp; omega
  have t7 : (n == (255 : Int)) = false := by simp; omega
  have t8 : (224 : Int) ≤ n := by omega
  have t9 : (197 : Int) < m := by omega
  have t10 : (m == (198 : Int)) = false := by simp; omega
  have t11 : (m == (199 : Int)) = false := by simp; omega
  have t12 : (203 : Int) < m := by omega
  have t13 : (207 : Int) < m := by omega
  have t14 : (m == (208 : Int)) = false := by simp; omega
  have t15 : (m == (209 : Int)) = false := by simp; omega
  have t16 : (216 : Int) < m := by omega
  have t17 : (220 : Int) < m := by omega
  have t18 : (m == (221 : Int)) = true := by simp; omega
  clear h hm
  go_enter Tryz.func145, Tryz.ntmps145
  go_wp2
  go_ret
  exact ⟨rfl, rfl⟩
set_option maxHeartbeats 800000 in
theorem fold_254_c (n : Int) (w : World) (h : 254 ≤ n ∧ n ≤ 254) :
    Calls Tryz.prog 145 #[.int .i64 n] w fun e w' => e = .returned (.string ⟨#[116, 104]⟩) ∧ w = w' := by
  obtain ⟨m, hm⟩ : ∃ m, n - 32 = m := ⟨_, rfl⟩
  have hw : IntKind.i64.wrap (n - 32) = m := by rw [IntKind.wrap_i64]; omega
  have t0 : (65 : Int) ≤ n := by omega
  have t1 : (90 : Int) < n := by omega
  have t2 : (192 : Int) ≤ n := by omega
  have t3 : n ≤ 255 := by omega
  have t4 : (n == (215 : Int)) = false := by simp; omega
  have t5 : (n == (247 : Int)) = false := by simp; omega
  have t6 : (n == (223 : Int)) = false := by simp; omega
  have t7 : (n == (255 : Int)) = false := by simp; omega
  have t8 : (224 : Int) ≤ n := by omega
  have t9 : (197 : Int) < m := by omega
  have t10 : (m == (198 : Int)) = false := by simp; omega
  have t11 : (m == (199 : Int)) = false := by simp; omega
  have t12 : (203 : Int) < m := by omega
  have t13 : (207 : Int) < m := by omega
  have t14 : (m == (208 : Int)) = false := by simp; omega
  have t15 : (m == (209 : Int)) = false := by simp; omega
  have t16 : (216 : Int) < m := by omega
  have t17 : (220 : Int) < m := by omega
  have t18 : (m == (221 : Int)) = false := by simp; omega
  clear h hm
  go_enter Tryz.func145, Tryz.ntmps145
  go_wp2
  go_ret
  exact ⟨rfl, rfl⟩
theorem Tx.foldC_up : ∀ c, c < 26 → ((⟨#[97, 98, 99, 100, 101, 102, 103, 104, 105, 106, 107, 108, 109, 110, 111, 112, 113, 114, 115, 116, 117, 118, 119, 120, 121, 122]⟩ : ByteArray).extract c (c + 1)) = ⟨(Tx.foldC (c + 65)).toArray⟩ := by decide +kernel
set_option maxHeartbeats 800000 in
theorem fold_up_c (k : Nat) (n : Int) (w : World) (hk : k < 26) (hn : n = ((k + 65 : Nat) : Int)) :
    Calls Tryz.prog 145 #[.int .i64 n] w fun e w' => e = .returned (.string ⟨(Tx.foldC (k + 65)).toArray⟩) ∧ w = w' := by
  have HQ := Lib.hid (Tx.foldC_up k hk)
  have g1 : (65 : Int) ≤ n := by omega
  have g2 : n ≤ 90 := by omega
  have g3 : IntKind.i64.wrap (n - 65) = (k : Int) := by rw [IntKind.wrap_i64]; omega
  have g4 : IntKind.i64.wrap (n - 64) = ((k + 1 : Nat) : Int) := by rw [IntKind.wrap_i64]; omega
  have g5 : (k : Int) ≤ ((k + 1 : Nat) : Int) := by omega
  have g6 : ((k + 1 : Nat) : Int) ≤ 26 := by omega
  clear hn
  go_enter Tryz.func145, Tryz.ntmps145
  go_wp2
  go_ret
  exact ⟨Tx.rets HQ.out, rfl⟩
theorem r01_fold_c (c : Nat) (w : World) (hc : c ≤ 1000000000) :
    Calls Tryz.prog 145 #[.int .i64 c] w fun e w' => e = .returned (.string ⟨(Tx.foldC c).toArray⟩) ∧ w = w' := by
  by_cases h : c ≤ 64
  · rw [show Tx.foldC c = [] from (show ∀ x, x < 256 → x ≤ 64 → Tx.foldC x = [] by decide +kernel) c (by omega) (by omega)]
    exact fold_0_c c w (by omega)
  by_cases h : 91 ≤ c ∧ c ≤ 191
  · rw [show Tx.foldC c = [] from (show ∀ x, x < 256 → 91 ≤ x → x ≤ 191 → Tx.foldC x = [] by decide +kernel) c (by omega) (by omega) (by omega)]
    exact fold_91_c c w (by omega)
  by_cases h : 256 ≤ c
  · rw [show Tx.foldC c = [] from Tx.foldC_high (by omega)]
    exact fold_256_c c w (by omega)
  by_cases h : 215 ≤ c ∧ c ≤ 215
  · rw [show Tx.foldC c = [] from (show ∀ x, x < 256 → 215 ≤ x → x ≤ 215 → Tx.foldC x = [] by decide +kernel) c (by omega) (by omega) (by omega)]
    exact fold_215_c c w (by omega)
  by_cases h : 247 ≤ c ∧ c ≤ 247
  · rw [show Tx.foldC c = [] from (show ∀ x, x < 256 → 247 ≤ x → x ≤ 247 → Tx.foldC x = [] by decide +kernel) c (by omega) (by omega) (by omega)]
    exact fold_247_c c w (by omega)
  by_cases h : 223 ≤ c ∧ c ≤ 223
  · rw [show Tx.foldC c = [115, 115] from (show ∀ x, x < 256 → 223 ≤ x → x ≤ 223 → Tx.foldC x = [115, 115] by decide +kernel) c (by omega) (by omega) (by omega)]
    exact fold_223_c c w (by omega)
  by_cases h : 255 ≤ c ∧ c ≤ 255
  · rw [show Tx.foldC c = [121] from (show ∀ x, x < 256 → 255 ≤ x → x ≤ 255 → Tx.foldC x = [121] by decide +kernel) c (by omega) (by omega) (by omega)]
    exact fold_255_c c w (by omega)
  by_cases h : 192 ≤ c ∧ c ≤ 197
  · rw [show Tx.foldC c = [97] from (show ∀ x, x < 256 → 192 ≤ x → x ≤ 197 → Tx.foldC x = [97] by decide +kernel) c (by omega) (by omega) (by omega)]
    exact fold_192_c c w (by omega)
  by_cases h : 198 ≤ c ∧ c ≤ 198
  · rw [show Tx.foldC c = [97, 101] from (show ∀ x, x < 256 → 198 ≤ x → x ≤ 198 → Tx.foldC x = [97, 101] by decide +kernel) c (by omega) (by omega) (by omega)]
    exact fold_198_c c w (by omega)
  by_cases h : 199 ≤ c ∧ c ≤ 199
  · rw [show Tx.foldC c = [99] from (show ∀ x, x < 256 → 199 ≤ x → x ≤ 199 → Tx.foldC x = [99] by decide +kernel) c (by omega) (by omega) (by omega)]
    exact fold_199_c c w (by omega)
  by_cases h : 200 ≤ c ∧ c ≤ 203
  · rw [show Tx.foldC c = [101] from (show ∀ x, x < 256 → 200 ≤ x → x ≤ 203 → Tx.foldC x = [101] by decide +kernel) c (by omega) (by omega) (by omega)]
    exact fold_200_c c w (by omega)
  by_cases h : 204 ≤ c ∧ c ≤ 207
  · rw [show Tx.foldC c = [105] from (show ∀ x, x < 256 → 204 ≤ x → x ≤ 207 → Tx.foldC x = [105] by decide +kernel) c (by omega) (by omega) (by omega)]
    exact fold_204_c c w (by omega)
  by_cases h : 208 ≤ c ∧ c ≤ 208
  · rw [show Tx.foldC c = [100] from (show ∀ x, x < 256 → 208 ≤ x → x ≤ 208 → Tx.foldC x = [100] by decide +kernel) c (by omega) (by omega) (by omega)]
    exact fold_208_c c w (by omega)
  by_cases h : 209 ≤ c ∧ c ≤ 209
  · rw [show Tx.foldC c = [110] from (show ∀ x, x < 256 → 209 ≤ x → x ≤ 209 → Tx.foldC x = [110] by decide +kernel) c (by omega) (by omega) (by omega)]
    exact fold_209_c c w (by omega)
  by_cases h : 210 ≤ c ∧ c ≤ 214
  · rw [show Tx.foldC c = [111] from (show ∀ x, x < 256 → 210 ≤ x → x ≤ 214 → Tx.foldC x = [111] by decide +kernel) c (by omega) (by omega) (by omega)]
    exact fold_210_c c w (by omega)
  by_cases h : 216 ≤ c ∧ c ≤ 216
  · rw [show Tx.foldC c = [111] from (show ∀ x, x < 256 → 216 ≤ x → x ≤ 216 → Tx.foldC x = [111] by decide +kernel) c (by omega) (by omega) (by omega)]
    exact fold_216_c c w (by omega)
  by_cases h : 217 ≤ c ∧ c ≤ 220
  · rw [show Tx.foldC c = [117] from (show ∀ x, x < 256 → 217 ≤ x → x ≤ 220 → Tx.foldC x = [117] by decide +kernel) c (by omega) (by omega) (by omega)]
    exact fold_217_c c w (by omega)
  by_cases h : 221 ≤ c ∧ c ≤ 221
  · rw [show Tx.foldC c = [121] from (show ∀ x, x < 256 → 221 ≤ x → x ≤ 221 → Tx.foldC x = [121] by decide +kernel) c (by omega) (by omega) (by omega)]
    exact fold_221_c c w (by omega)
  by_cases h : 222 ≤ c ∧ c ≤ 222
  · rw [show Tx.foldC c = [116, 104] from (show ∀ x, x < 256 → 222 ≤ x → x ≤ 222 → Tx.foldC x = [116, 104] by decide +kernel) c (by omega) (by omega) (by omega)]
    exact fold_222_c c w (by omega)
  by_cases h : 224 ≤ c ∧ c ≤ 229
  · rw [show Tx.foldC c = [97] from (show ∀ x, x < 256 → 224 ≤ x → x ≤ 229 → Tx.foldC x = [97] by decide +kernel) c (by omega) (by omega) (by omega)]
    exact fold_224_c c w (by omega)
  by_cases h : 230 ≤ c ∧ c ≤ 230
  · rw [show Tx.foldC c = [97, 101] from (show ∀ x, x < 256 → 230 ≤ x → x ≤ 230 → Tx.foldC x = [97, 101] by decide +kernel) c (by omega) (by omega) (by omega)]
    exact fold_230_c c w (by omega)
  by_cases h : 231 ≤ c ∧ c ≤ 231
  · rw [show Tx.foldC c = [99] from (show ∀ x, x < 256 → 231 ≤ x → x ≤ 231 → Tx.foldC x = [99] by decide +kernel) c (by omega) (by omega) (by omega)]
    exact fold_231_c c w (by omega)
  by_cases h : 232 ≤ c ∧ c ≤ 235
  · rw [show Tx.foldC c = [101] from (show ∀ x, x < 256 → 232 ≤ x → x ≤ 235 → Tx.foldC x = [101] by decide +kernel) c (by omega) (by omega) (by omega)]
    exact fold_232_c c w (by omega)
  by_cases h : 236 ≤ c ∧ c ≤ 239
  · rw [show Tx.foldC c = [105] from (show ∀ x, x < 256 → 236 ≤ x → x ≤ 239 → Tx.foldC x = [105] by decide +kernel) c (by omega) (by omega) (by omega)]
    exact fold_236_c c w (by omega)
  by_cases h : 240 ≤ c ∧ c ≤ 240
  · rw [show Tx.foldC c = [100] from (show ∀ x, x < 256 → 240 ≤ x → x ≤ 240 → Tx.foldC x = [100] by decide +kernel) c (by omega) (by omega) (by omega)]
    exact fold_240_c c w (by omega)
  by_cases h : 241 ≤ c ∧ c ≤ 241
  · rw [show Tx.foldC c = [110] from (show ∀ x, x < 256 → 241 ≤ x → x ≤ 241 → Tx.foldC x = [110] by decide +kernel) c (by omega) (by omega) (by omega)]
    exact fold_241_c c w (by omega)
  by_cases h : 242 ≤ c ∧ c ≤ 246
  · rw [show Tx.foldC c = [111] from (show ∀ x, x < 256 → 242 ≤ x → x ≤ 246 → Tx.foldC x = [111] by decide +kernel) c (by omega) (by omega) (by omega)]
    exact fold_242_c c w (by omega)
  by_cases h : 248 ≤ c ∧ c ≤ 248
  · rw [show Tx.foldC c = [111] from (show ∀ x, x < 256 → 248 ≤ x → x ≤ 248 → Tx.foldC x = [111] by decide +kernel) c (by omega) (by omega) (by omega)]
    exact fold_248_c c w (by omega)
  by_cases h : 249 ≤ c ∧ c ≤ 252
  · rw [show Tx.foldC c = [117] from (show ∀ x, x < 256 → 249 ≤ x → x ≤ 252 → Tx.foldC x = [117] by decide +kernel) c (by omega) (by omega) (by omega)]
    exact fold_249_c c w (by omega)
  by_cases h : 253 ≤ c ∧ c ≤ 253
  · rw [show Tx.foldC c = [121] from (show ∀ x, x < 256 → 253 ≤ x → x ≤ 253 → Tx.foldC x = [121] by decide +kernel) c (by omega) (by omega) (by omega)]
    exact fold_253_c c w (by omega)
  by_cases h : 254 ≤ c ∧ c ≤ 254
  · rw [show Tx.foldC c = [116, 104] from (show ∀ x, x < 256 → 254 ≤ x → x ≤ 254 → Tx.foldC x = [116, 104] by decide +kernel) c (by omega) (by omega) (by omega)]
    exact fold_254_c c w (by omega)
  obtain ⟨k, rfl⟩ : ∃ k, c = k + 65 := ⟨c - 65, by omega⟩
  exact fold_up_c k _ w (by omega) rfl
end Go.Proofs.YtogpghpgnpoioaaGreatDoor

/- The reference's letters and folded texts: what the calls return. -/
namespace Go.Proofs.YtogpghpgnpoioaaGreatDoor
open Go.RowKit
set_option maxRecDepth 100000

set_option maxHeartbeats 800000 in
theorem r01_letter_c (c : Nat) (w : World) :
    Calls Tryz.prog 96 #[.int .i64 c] w fun e w' => e = .returned (.bool (Tx.letter c)) ∧ w = w' := by
  obtain ⟨b, hb⟩ : ∃ b, Tx.letter c = b := ⟨_, rfl⟩
  rw [hb]
  unfold Tx.letter at hb
  go_enter Tryz.func96, Tryz.ntmps96
  rcases (show c < 48 ∨ (48 ≤ c ∧ c ≤ 57) ∨ (57 < c ∧ c < 97) ∨ (97 ≤ c ∧ c ≤ 122) ∨ (122 < c ∧ c < 256) ∨ 256 ≤ c by omega) with g | ⟨g1, g2⟩ | ⟨g1, g2⟩ | ⟨g1, g2⟩ | ⟨g1, g2⟩ | g
  · have : b = false := by rw [← hb]; simp; omega
    subst this; clear hb
    go_wp2
    go_ret
    exact ⟨Tx.retb (by first | rfl | (simp; done) | (simp; omega)), rfl⟩
  · have : b = true := by rw [← hb]; simp; omega
    have g3 : c < 97 := by omega
    subst this; clear hb
    go_wp2
    go_ret
    exact ⟨Tx.retb (by first | rfl | (simp; done) | (simp; omega)), rfl⟩
  · have : b = false := by rw [← hb]; simp; omega
    have g3 : 48 ≤ c := by omega
    have g4 : c < 256 := by omega
    subst this; clear hb
    go_wp2
    go_ret
    exact ⟨Tx.retb (by first | rfl | (simp; done) | (simp; omega)), rfl⟩
  · have : b = true := by rw [← hb]; simp; omega
    subst this; clear hb
    go_wp2
    go_ret
    exact ⟨Tx.retb (by first | rfl | (simp; done) | (simp; omega)), rfl⟩
  · have : b = false := by rw [← hb]; simp; omega
    have g3 : 97 ≤ c := by omega
    have g4 : 48 ≤ c := by omega
    have g5 : 57 < c := by omega
    subst this; clear hb
    go_wp2
    go_ret
    exact ⟨Tx.retb (by first | rfl | (simp; done) | (simp; omega)), rfl⟩
  · have : b = true := by rw [← hb]; simp; omega
    have g3 : 97 ≤ c := by omega
    have g4 : 48 ≤ c := by omega
    have g5 : 57 < c := by omega
    have g6 : 122 < c := by omega
    subst this; clear hb
    go_wp2
    go_ret
    exact ⟨Tx.retb (by first | rfl | (simp; done) | (simp; omega)), rfl⟩

theorem Tx.fold_round {s : ByteArray} {k : Nat} {out out' : List UInt8} (hlt : k < s.size) (hol : out.length ≤ 2 * k)
    (hv : Tx.foldT Tx.foldStep out (s.data.toList.drop k) = Tx.foldS s.data.toList)
    (h : out ++ Tx.foldP ((s.data.toList.drop k).take (Tx.wid (s.data.toList.drop k))) (Tx.rdec (s.data.toList.drop k)).1 = out') :
    out'.length ≤ 2 * (k + Tx.wid (s.data.toList.drop k)) ∧ Tx.foldT Tx.foldStep out' (s.data.toList.drop (k + Tx.wid (s.data.toList.drop k))) = Tx.foldS s.data.toList := by
  have hw := Tx.wid_pos (s.data.toList.drop k)
  constructor
  · rw [← h, List.length_append]
    have : (Tx.foldP ((s.data.toList.drop k).take (Tx.wid (s.data.toList.drop k))) (Tx.rdec (s.data.toList.drop k)).1).length ≤ 2 * Tx.wid (s.data.toList.drop k) := by
      unfold Tx.foldP
      split
      · rw [List.length_take]; omega
      · have := Tx.foldC_len (Tx.rdec (s.data.toList.drop k)).1; omega
    omega
  · rw [← hv, Tx.foldT_step Tx.foldStep out (Tx.drop_ne (by rw [← Lib.size_eq]; exact hlt)), show Tx.foldStep out ((s.data.toList.drop k).take (Tx.wid (s.data.toList.drop k))) (Tx.rdec (s.data.toList.drop k)).1 = out' from h, List.drop_drop]

set_option maxHeartbeats 800000 in
theorem r01_Fold_c (s : ByteArray) (w : World) (hs : s.size ≤ 1000000000) :
    Calls Tryz.prog 93 #[.string s] w fun e w' => e = .returned (.string ⟨(Tx.foldS s.data.toList).toArray⟩) ∧ Below w.heap.size w w' := by
  go_enter Tryz.func93, Tryz.ntmps93
  go_wp2
  go_loopw [3, 4] (fun o i wr => ∃ (k : Nat) (out : List UInt8), k ≤ s.size ∧ i = .int .i64 k ∧ o = .string ⟨out.toArray⟩ ∧ out.length ≤ 2 * k ∧ Hid (Tx.foldT Tx.foldStep out (s.data.toList.drop k) = Tx.foldS s.data.toList) ∧ Below w.heap.size w wr) (fun _ i _ => s.size - (intOf i).toNat)
  case atStart => exact ⟨0, [], Nat.zero_le _, rfl, rfl, Nat.zero_le _, Lib.hid (by rw [List.drop_zero]; rfl), Below.refl _ _⟩
  case round =>
    obtain ⟨k, out, hk, rfl, rfl, hol, hv, hb⟩ := hrel
    by_cases hlt : k < s.size
    · obtain ⟨hle, h3, h4, h5, h6⟩ := Tx.rdec_fits hlt
      have hr := Tx.rdec_rune (s.data.toList.drop k)
      have hF : ∃ f, Tx.foldC (Tx.rdec (s.data.toList.drop k)).1 = f := ⟨_, rfl⟩
      obtain ⟨f, hf⟩ := hF
      have HF := Lib.hid hf; clear hf
      by_cases hfe : f = []
      · subst hfe
        have hs1 := Tx.fold_round (out' := out ++ (s.data.toList.drop k).take (Tx.wid (s.data.toList.drop k))) hlt hol hv.out (by unfold Tx.foldP; rw [HF.out, if_pos rfl])
        have H1 := Lib.hid hs1; clear hs1
        go_wp2_with (first
          | (go_at_call 94; refine (r01_decode_c s k _ hlt (by omega)).mono ?_; rintro e w1 ⟨rfl, hb1⟩)
          | (go_at_call 95; refine (r01_size_c s k _ hlt (by omega)).mono ?_; rintro e w2 ⟨rfl, hb2⟩)
          | (go_at_call 145; refine (r01_fold_c _ _ (by omega)).mono ?_; rintro e w3 ⟨rfl, rfl⟩; rw [HF.out]))
        go_roundw
        case rel => exact ⟨k + Tx.wid (s.data.toList.drop k), _, h5, by go_num, by rw [Tx.bcat, Tx.extract_wid], H1.out.1, Lib.hid H1.out.2, (hb.trans (hb1.mono hb.size)).trans (hb2.mono (by have := hb.size; have := hb1.size; omega))⟩
        case measure => simp [intOf]; omega
      · have hs1 := Tx.fold_round (out' := out ++ f) hlt hol hv.out (by unfold Tx.foldP; rw [HF.out, if_neg hfe])
        have H1 := Lib.hid hs1; clear hs1
        have hfl : f.length ≤ 2 := by rw [← HF.out]; exact Tx.foldC_len _
        have hfi : f.isEmpty = false := by cases f <;> simp_all
        go_wp2_with (first
          | (go_at_call 94; refine (r01_decode_c s k _ hlt (by omega)).mono ?_; rintro e w1 ⟨rfl, hb1⟩)
          | (go_at_call 95; refine (r01_size_c s k _ hlt (by omega)).mono ?_; rintro e w2 ⟨rfl, hb2⟩)
          | (go_at_call 145; refine (r01_fold_c _ _ (by omega)).mono ?_; rintro e w3 ⟨rfl, rfl⟩; rw [HF.out]))
        go_roundw
        case rel => exact ⟨k + Tx.wid (s.data.toList.drop k), _, h5, by go_num, by rw [Tx.bcat], H1.out.1, Lib.hid H1.out.2, (hb.trans (hb1.mono hb.size)).trans (hb2.mono (by have := hb.size; have := hb1.size; omega))⟩
        case measure => simp [intOf]; omega
    · go_wp2
      go_ret
      have : s.data.toList.drop k = [] := List.drop_eq_nil_of_le (by rw [← Lib.size_eq]; omega)
      exact ⟨Tx.rets (by rw [← hv.out, this, Tx.foldT_nil]), hb⟩
end Go.Proofs.YtogpghpgnpoioaaGreatDoor

/- The reference's words of a text: what the call returns. -/
namespace Go.Proofs.YtogpghpgnpoioaaGreatDoor
open Go.RowKit
set_option maxRecDepth 100000

namespace Tx
theorem words_round {l : List UInt8} {k : Nat} {st st' : List (List UInt8) × List UInt8} (hlt : k < l.length) (hn : st.2.length ≤ k) (hc : st.1.length ≤ k)
    (hv : wEnd (foldT (wStep sepW) st (l.drop k)) = fieldsT sepW l)
    (h : wStep sepW st ((l.drop k).take (wid (l.drop k))) (rdec (l.drop k)).1 = st') :
    st'.2.length ≤ k + wid (l.drop k) ∧ st'.1.length ≤ k + wid (l.drop k) ∧ wEnd (foldT (wStep sepW) st' (l.drop (k + wid (l.drop k)))) = fieldsT sepW l := by
  have hw := wid_pos (l.drop k)
  have htl : ((l.drop k).take (wid (l.drop k))).length ≤ wid (l.drop k) := by rw [List.length_take]; omega
  refine ⟨?_, ?_, ?_⟩
  · rw [← h]
    unfold wStep
    repeat' split
    all_goals first | omega | (simp only [List.length_append, List.length_nil]; omega)
  · rw [← h]
    unfold wStep
    repeat' split
    all_goals first | omega | (simp only [List.length_append, List.length_cons, List.length_nil]; omega)
  · rw [← hv, foldT_step (wStep sepW) st (drop_ne hlt), h, List.drop_drop]
theorem own_later {B : Nat} {w w' : World} {e size n : Nat} {v : Value} {xs : List Value} (h : Below w.heap.size w w') (ho : w.ownsRow B e size v n xs) : w'.ownsRow B e size v n xs := by
  refine ⟨ho.1, ?_⟩
  rcases ho.2 with h1 | ⟨k, cap, cur, h1, h2, h3, h4⟩
  · exact .inl h1
  · exact .inr ⟨k, cap, cur, h1, h2, (h.block k (Array.getElem?_eq_some_iff.1 h3).1).trans h3, h4⟩
theorem foldS_len2 (l : List UInt8) : (foldS l).length ≤ 2 * l.length := by
  have : ∀ (n : Nat) (l out : List UInt8), l.length ≤ n → (foldT foldStep out l).length ≤ out.length + 2 * l.length := by
    intro n
    induction n with
    | zero =>
      intro l out h
      have := List.eq_nil_of_length_eq_zero (Nat.le_zero.1 h)
      subst this
      rw [foldT_nil]; omega
    | succ n ih =>
      intro l out h
      by_cases hne : l = []
      · subst hne; rw [foldT_nil]; omega
      · rw [foldT_step foldStep out hne]
        have hw := wid_pos l
        have hwl := wid_le hne
        have h1 := ih (l.drop (wid l)) (foldStep out (l.take (wid l)) (rdec l).1) (by rw [List.length_drop]; omega)
        have h2 : (foldStep out (l.take (wid l)) (rdec l).1).length ≤ out.length + 2 * wid l := by
          unfold foldStep foldP
          rw [List.length_append]
          split
          · rw [List.length_take]; omega
          · have := foldC_len (rdec l).1; omega
        rw [List.length_drop] at h1
        omega
  have := this l.length l [] (Nat.le_refl _)
  simpa [foldS] using this
abbrev sv (x : List UInt8) : Value := .string ⟨x.toArray⟩
end Tx

set_option maxHeartbeats 1600000 in
theorem r01_Words_c (s : ByteArray) (w : World) (hs : s.size ≤ 400000000) :
    Calls Tryz.prog 64 #[.string s] w fun e w' => ∃ v, e = .returned v ∧ w'.ownsRow w.heap.size 9 1 v (Tx.words s.data.toList).length ((Tx.words s.data.toList).map Tx.sv) ∧ Below w.heap.size w w' := by
  obtain ⟨i0, hi0, hz0, hz1, hz2⟩ := info_parts info_str
  obtain ⟨f, hf⟩ : ∃ f : ByteArray, (⟨(Tx.foldS s.data.toList).toArray⟩ : ByteArray) = f := ⟨_, rfl⟩
  have hfw : Tx.words s.data.toList = Tx.fieldsT Tx.sepW f.data.toList := by rw [← hf]; rfl
  have hfl : f.size ≤ 2 * s.size + 2 := by
    rw [← hf, Tx.size_mk]
    have := Tx.foldS_len2 s.data.toList
    rw [← Lib.size_eq] at this
    omega
  have HF := Lib.hid hf; clear hf
  have HW := Lib.hid hfw; clear hfw
  have HI := Lib.hid hi0; clear hi0
  go_enter Tryz.func64, Tryz.ntmps64
  go_wp2_with (go_at_call 93; refine (r01_Fold_c s _ (by omega)).mono ?_; rintro e w0 ⟨rfl, hb0⟩; rw [HF.out])
  go_loopw [3, 4, 5] (fun o d i wr => ∃ (k : Nat) (out : List (List UInt8)) (wd : List UInt8), k ≤ f.size ∧ i = .int .i64 k ∧ d = .string ⟨wd.toArray⟩ ∧ wd.length ≤ k ∧ out.length ≤ k ∧ wr.ownsRow w.heap.size 9 1 o out.length (out.map Tx.sv) ∧ Hid (Tx.wEnd (Tx.foldT (Tx.wStep Tx.sepW) (out, wd) (f.data.toList.drop k)) = Tx.fieldsT Tx.sepW f.data.toList) ∧ Below w.heap.size w wr) (fun _ _ i _ => f.size - (intOf i).toNat)
  case atStart => exact ⟨0, [], [], Nat.zero_le _, rfl, rfl, Nat.zero_le _, Nat.zero_le _, World.ownsRow_nil _ _ _ _, Lib.hid (by rw [List.drop_zero]; rfl), hb0⟩
  case round =>
    obtain ⟨k, out, wd, hk, rfl, rfl, hwl, hol, hown, hv, hb⟩ := hrel
    by_cases hlt : k < f.size
    · obtain ⟨hle, h3, h4, h5, h6⟩ := Tx.rdec_fits hlt
      have hlt2 : k < f.data.toList.length := by rw [← Lib.size_eq]; exact hlt
      obtain ⟨b, hbl⟩ : ∃ b, Tx.letter (Tx.rdec (f.data.toList.drop k)).1 = b := ⟨_, rfl⟩
      have HB := Lib.hid hbl; clear hbl
      cases b with
      | true =>
        have hs1 := Tx.words_round (st' := (out, wd ++ (f.data.toList.drop k).take (Tx.wid (f.data.toList.drop k)))) hlt2 hwl hol hv.out (by unfold Tx.wStep Tx.sepW; rw [HB.out]; rfl)
        have H1 := Lib.hid hs1; clear hs1 hlt2
        go_wp2_with (first
          | (go_at_call 94; refine (r01_decode_c f k _ hlt (by omega)).mono ?_; rintro e w1 ⟨rfl, hb1⟩)
          | (go_at_call 95; refine (r01_size_c f k _ hlt (by omega)).mono ?_; rintro e w2 ⟨rfl, hb2⟩)
          | (go_at_call 96; refine (r01_letter_c _ _).mono ?_; rintro e w3 ⟨rfl, rfl⟩; rw [HB.out]))
        go_roundw
        case rel => exact ⟨k + Tx.wid (f.data.toList.drop k), out, _, h5, by go_num, by rw [Tx.bcat, Tx.extract_wid], H1.out.1, H1.out.2.1, Tx.own_later hb2 (Tx.own_later hb1 hown), Lib.hid H1.out.2.2, (hb.trans (hb1.mono hb.size)).trans (hb2.mono (by have := hb.size; have := hb1.size; omega))⟩
        case measure => simp [intOf]; omega
      | false =>
        by_cases hwd : wd = []
        · subst hwd
          have hs1 := Tx.words_round (st' := (out, [])) hlt2 hwl hol hv.out (by unfold Tx.wStep Tx.sepW; rw [HB.out]; rfl)
          have H1 := Lib.hid hs1; clear hs1 hlt2
          go_wp2_with (first
            | (go_at_call 94; refine (r01_decode_c f k _ hlt (by omega)).mono ?_; rintro e w1 ⟨rfl, hb1⟩)
            | (go_at_call 95; refine (r01_size_c f k _ hlt (by omega)).mono ?_; rintro e w2 ⟨rfl, hb2⟩)
            | (go_at_call 96; refine (r01_letter_c _ _).mono ?_; rintro e w3 ⟨rfl, rfl⟩; rw [HB.out]))
          go_roundw
          case rel => exact ⟨k + Tx.wid (f.data.toList.drop k), out, [], h5, by go_num, rfl, Nat.zero_le _, H1.out.2.1, Tx.own_later hb2 (Tx.own_later hb1 hown), Lib.hid H1.out.2.2, (hb.trans (hb1.mono hb.size)).trans (hb2.mono (by have := hb.size; have := hb1.size; omega))⟩
          case measure => simp [intOf]; omega
        · have hs1 := Tx.words_round (st' := (out ++ [wd], [])) hlt2 hwl hol hv.out (by unfold Tx.wStep Tx.sepW; rw [HB.out]; simp [hwd])
          have H1 := Lib.hid hs1; clear hs1 hlt2
          have hwi : wd.isEmpty = false := by cases wd <;> simp_all
          clear hwd
          go_wp2_with (first
            | (go_at_call 94; refine (r01_decode_c f k _ hlt (by omega)).mono ?_; rintro e w1 ⟨rfl, hb1⟩)
            | (go_at_call 95; refine (r01_size_c f k _ hlt (by omega)).mono ?_; rintro e w2 ⟨rfl, hb2⟩)
            | (go_at_call 96; refine (r01_letter_c _ _).mono ?_; rintro e w3 ⟨rfl, rfl⟩; rw [HB.out]; have hown2 := Tx.own_later hb2 (Tx.own_later hb1 hown); have hs2 := hb1.size; have hs3 := hb2.size)
            | (at_builtin; go_must (refine wpList_append_own _ rfl _ _ 36 rfl w.heap.size 9 i0 (.string ⟨#[]⟩) 1 16 Tryz.underlying36 HI.out hz0 hz1 hz2 rfl (by decide) _ out.length _ rfl (hown2.alloc _) ⟨_, 0, none⟩ 1 1 [Tx.sv wd] rfl rfl (Tx.cell_one_at _ _ (by first | rfl | simp) _ _) (by simp [Value.oneCell']) (by unfold maxLen; omega) (by omega) (by have := hb.size; simp; omega) ?_); intro v' w4 hown4 hg4 hnil4))
          go_roundw
          case rel => exact ⟨k + Tx.wid (f.data.toList.drop k), out ++ [wd], [], h5, by go_num, rfl, Nat.zero_le _, H1.out.2.1, by rw [List.length_append, List.map_append]; exact hown4, Lib.hid H1.out.2.2, ((hb.trans (hb1.mono hb.size)).trans (hb2.mono (by have := hb.size; omega))).trans (((Tx.newb _ _).mono (by have := hb.size; omega)).grown hg4 (by have := hb.size; simp; omega) (fun j hj => (hown2.lt j hj).1))⟩
          case measure => simp [intOf]; omega
    · have hd : f.data.toList.drop k = [] := List.drop_eq_nil_of_le (by rw [← Lib.size_eq]; omega)
      rw [hd, Tx.foldT_nil] at hv
      by_cases hwd : wd = []
      · subst hwd
        have hE : out = Tx.words s.data.toList := by rw [HW.out, ← hv.out]; rfl
        go_wp2
        go_ret
        rw [← hE]
        exact ⟨_, rfl, hown, hb⟩
      · have hE : out ++ [wd] = Tx.words s.data.toList := by rw [HW.out, ← hv.out]; unfold Tx.wEnd; rw [if_neg hwd]
        have HE := Lib.hid hE
        have hwi : wd.isEmpty = false := by cases wd <;> simp_all
        clear hwd hE hd
        go_wp2_with (at_builtin; go_must (refine wpList_append_own _ rfl _ _ 36 rfl w.heap.size 9 i0 (.string ⟨#[]⟩) 1 16 Tryz.underlying36 HI.out hz0 hz1 hz2 rfl (by decide) _ out.length _ rfl (hown.alloc _) ⟨_, 0, none⟩ 1 1 [Tx.sv wd] rfl rfl (Tx.cell_one_at _ _ (by first | rfl | simp) _ _) (by simp [Value.oneCell']) (by unfold maxLen; omega) (by omega) (by have := hb.size; simp; omega) ?_); intro v' w4 hown4 hg4 hnil4)
        go_ret
        rw [← HE.out, List.length_append, List.map_append]
        exact ⟨_, rfl, hown4, hb.trans (((Tx.newb _ _).mono hb.size).grown hg4 (by have := hb.size; simp; omega) (fun j hj => (hown.lt j hj).1))⟩
end Go.Proofs.YtogpghpgnpoioaaGreatDoor

/- The reference's functions of fields: what the calls return. -/

namespace Go.Proofs.YtogpghpgnpoioaaGreatDoor
open Go.RowKit
set_option maxRecDepth 100000

namespace Rc
open Go.Lib
theorem joinTail_app (sep : By) (a b : List By) : joinTail sep (a ++ b) = joinTail sep a ++ joinTail sep b := by simp [joinTail]
theorem join_snoc (l : List By) (x sep : By) : join (l ++ [x]) sep = if l = [] then x else join l sep ++ sep ++ x := by
  cases l with
  | nil => simp [join_cons, joinTail]
  | cons y r =>
    rw [List.cons_append, join_cons, join_cons, joinTail_app, if_neg (by simp)]
    simp [joinTail]
theorem join_app_le (a b : List By) (sep : By) : (join a sep).length ≤ (join (a ++ b) sep).length := by
  cases a with
  | nil => simp [join_nil]
  | cons y r =>
    rw [List.cons_append, join_cons, join_cons, joinTail_app]
    simp only [List.length_append]
    omega
theorem join_take_le (l : List By) (sep : By) (k : Nat) : (join (l.take k) sep).length ≤ (join l sep).length := by
  have := join_app_le (l.take k) (l.drop k) sep
  rw [List.take_append_drop] at this
  exact this
theorem bys_take {xs : List ByteArray} {k : Nat} {x : ByteArray} (h : xs[k]? = some x) : bys (xs.take (k + 1)) = bys (xs.take k) ++ [x.data.toList] := by
  unfold bys
  rw [List.take_add_one, h]
  simp
theorem take_map {xs : List ByteArray} {k : Nat} : bys (xs.take k) = (bys xs).take k := by unfold bys; rw [List.map_take]
theorem take_nil_iff {α : Type} {xs : List α} {k : Nat} (h : k < xs.length) : xs.take k = [] ↔ k = 0 := by
  cases xs with
  | nil => simp at h
  | cons x r => cases k <;> simp
theorem has_none {codes : ByteArray} {x : UInt8} (h : ∀ j, j < codes.size → codes.data.toList.getD j 0 ≠ x) : codes.data.toList.contains x = false := by
  rw [Bool.eq_false_iff]
  intro h1
  rw [List.contains_iff_mem] at h1
  obtain ⟨j, hj, e⟩ := List.mem_iff_getElem.1 h1
  refine h j (by rw [Lib.size_eq]; exact hj) ?_
  rw [List.getD_eq_getElem?_getD, List.getElem?_eq_getElem hj]
  exact e
theorem has_some {codes : ByteArray} {x : UInt8} {j : Nat} (hj : j < codes.size) (h : codes.data.toList.getD j 0 = x) : hasCode codes.data.toList x = true := by
  unfold hasCode
  rw [Bool.or_eq_true, List.contains_iff_mem]
  refine .inr ?_
  have hj2 : j < codes.data.toList.length := by rw [← Lib.size_eq]; exact hj
  rw [← h, List.getD_eq_getElem?_getD, List.getElem?_eq_getElem hj2]
  exact List.getElem_mem _
theorem has_empty {codes : ByteArray} {x : UInt8} (h : codes.data.toList.contains x = false) : hasCode codes.data.toList x = codes.toList.isEmpty := by
  unfold hasCode
  rw [h, Bool.or_false, Lib.toList_data]
end Rc

set_option maxHeartbeats 1600000 in
theorem r01_Join_c (xs : List ByteArray) (a : Option Addr) (c : Nat) (sep : ByteArray) (w : World) (h : SLA w a c xs) (hlen : (Lib.join (Rc.bys xs) sep.data.toList).length ≤ 1000000000) :
    Calls Tryz.prog 63 #[.slice a xs.length c, .string sep] w fun e w' => e = .returned (.string ⟨(Lib.join (Rc.bys xs) sep.data.toList).toArray⟩) ∧ w = w' := by
  have hcap := h.cap
  have hmx : maxLen = 9223372036854775807 := rfl
  have hmax := h.max
  have HLEN := Lib.hid hlen; clear hlen
  go_enter Tryz.func63, Tryz.ntmps63
  go_wp2
  go_loop [5, 6] (fun v i => ∃ (k : Nat) (O : List UInt8), k ≤ xs.length ∧ i = .int .i64 k ∧ v = .string ⟨O.toArray⟩ ∧ Hid (O = Lib.join (Rc.bys (xs.take k)) sep.data.toList) ∧ O.length ≤ 1000000000) (fun _ i => xs.length - (intOf i).toNat)
  case atStart => exact ⟨0, [], Nat.zero_le _, rfl, rfl, Lib.hid rfl, by simp⟩
  case round =>
    obtain ⟨k, O, hk, rfl, rfl, hO, hOl⟩ := hrel
    by_cases hlt : k < xs.length
    · obtain ⟨x, hx⟩ : ∃ x, xs[k]? = some x := ⟨_, List.getElem?_eq_getElem hlt⟩
      obtain ⟨b, o, rfl, hbl, c0⟩ := h.get hx
      have hj := Rc.join_snoc (Rc.bys (xs.take k)) x.data.toList sep.data.toList
      rw [← Rc.bys_take hx, ← hO.out] at hj
      have hjl : (Lib.join (Rc.bys (xs.take (k + 1))) sep.data.toList).length ≤ 1000000000 := by
        rw [Rc.take_map]
        exact Nat.le_trans (Rc.join_take_le _ _ _) HLEN.out
      by_cases h0 : k = 0
      · subst h0
        rw [Nat.add_zero] at c0
        have hO0 : O = [] := by rw [hO.out]; rfl
        subst hO0
        rw [if_pos (by rfl)] at hj
        rw [hj] at hjl
        have hxs : x.size ≤ 1000000000 := by rw [Lib.size_eq]; exact hjl
        have HJ := Lib.hid hj; clear hj hx hO hjl
        obtain ⟨a1, -⟩ := Tx.adds_ok Tryz.prog [x] (⟨#[]⟩ : ByteArray) (by simp only [List.map_cons, List.map_nil, List.sum_cons, List.sum_nil]; rw [show (⟨#[]⟩ : ByteArray).size = 0 from rfl]; omega)
        go_wp2
        go_round
        case rel => exact ⟨1, x.data.toList, by omega, by go_num, by simp [Tx.bcat], Lib.hid HJ.out.symm, by rw [← Lib.size_eq]; exact hxs⟩
        case measure => simp [intOf]; omega
      · rw [if_neg (fun e => h0 ((Rc.take_nil_iff hlt).1 (by unfold Rc.bys at e; exact List.map_eq_nil_iff.1 e)))] at hj
        rw [hj] at hjl
        have hjl2 : O.length + sep.size + x.size ≤ 1000000000 := by rw [Lib.size_eq sep, Lib.size_eq x]; simpa [Nat.add_assoc] using hjl
        have HJ := Lib.hid hj; clear hj hx hO hjl
        have hkp : 0 < k := by omega
        obtain ⟨a1, a2, -⟩ := Tx.adds_ok Tryz.prog [sep, x] (⟨O.toArray⟩ : ByteArray) (by simp only [List.map_cons, List.map_nil, List.sum_cons, List.sum_nil, Tx.size_mk]; omega)
        go_wp2
        go_round
        case rel => exact ⟨k + 1, O ++ sep.data.toList ++ x.data.toList, by omega, by go_num, by simp [Tx.bcat], Lib.hid HJ.out.symm, by simp only [List.length_append]; rw [← Lib.size_eq, ← Lib.size_eq]; omega⟩
        case measure => simp [intOf]; omega
    · obtain rfl : k = xs.length := by omega
      have hO2 := hO.out
      rw [List.take_length] at hO2
      have HO := Lib.hid hO2; clear hO2 hO
      go_wp2
      go_ret
      exact ⟨Tx.rets (by rw [HO.out]), rfl⟩

end Go.Proofs.YtogpghpgnpoioaaGreatDoor
