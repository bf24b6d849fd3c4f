/- One or two primaries are read: what the program's call does, each way. -/
import Derived.Test.YtkahplbjbidemaaGreatDoorQtZ
import Derived.Deep.RegionHeld3
namespace Go.Proofs.YtkahplbjbidemaaGreatDoor
open Go.RowKit
set_option maxRecDepth 100000
attribute [local go_sem] Qr.run_tok0 Qr.run_tok1 Qr.run_tok2

set_option maxHeartbeats 800000 in
theorem not_none (g : Nat) (l r : List Qr.Tok) (w : World) (hP : Qr.PS g l r w) (x : Qr.PR) (hPr : ∀ w, Qr.PS g l r w → Calls Tryz.prog 87 #[.pointer (some ⟨g, 0, none⟩)] w (Qr.Res g l x w)) (ho : x = none) :
    Calls Tryz.prog 74 #[.pointer (some ⟨g, 0, none⟩)] w fun e w' => e = .panicked [{ v := Qr.wrongP, recovered := false }] ∧ Qr.Fr g w w' := by
  have hgl := hP.lt
  have hll := hP.len
  have hP0 := hP.below (Tx.newb w (.cells Qr.zeroQ 25))
  have HPP := Lib.hid hP; clear hP
  have HO := Lib.hid ho; clear ho
  go_enter Tryz.func74, Tryz.ntmps74
  go_wp2_with (first
    | (go_at_call 87; refine (hPr _ hP0).mono ?_; rintro e w1 h1; rw [HO.out] at h1; obtain ⟨rfl, hF1⟩ := h1.bad; have hF1' : Qr.Fr g w w1 := ((Qr.Fr.refl g w).alloc _).trans hF1))
  exact ⟨rfl, rfl, hF1'⟩

set_option maxHeartbeats 800000 in
theorem not_plain (g : Nat) (l r : List Qr.Tok) (w : World) (hP : Qr.PS g l r w) (x : Qr.PR) (hPr : ∀ w, Qr.PS g l r w → Calls Tryz.prog 87 #[.pointer (some ⟨g, 0, none⟩)] w (Qr.Res g l x w)) (q : Qr.Qy) (r' : List Qr.Tok) (ho : x = some (q, r')) (hr' : r' <:+ r) (hi : Qr.isOp Qr.notB r' = false) :
    Calls Tryz.prog 74 #[.pointer (some ⟨g, 0, none⟩)] w fun e w' => Qr.Res g l (some (q, r')) w e w' := by
  have hgl := hP.lt
  have hll := hP.len
  have hP0 := hP.below (Tx.newb w (.cells Qr.zeroQ 25))
  have HPP := Lib.hid hP; clear hP
  have HO := Lib.hid ho; clear ho
  have hsl := hr'.length_le
  obtain ⟨A5, hA5⟩ : ∃ A5, l.length - r'.length = A5 := ⟨_, rfl⟩
  have hw5 := IntWalk.i64_in ((A5 : Int) + 1) ⟨by omega, by omega⟩
  have HA5 := Lib.hid hA5
  have HI := Lib.hid hi; clear hi hA5
  go_enter Tryz.func74, Tryz.ntmps74
  go_wp2_with (first
    | (go_at_call 51; refine (is_c g l r' Qr.notB _ hP1').mono ?_; rintro e w2 ⟨rfl, hb2⟩; rw [HI.out]; have s2 := hb2.size; simp only [World.size_alloc] at s2; have KR2 := Lib.hid (Tx.blk_later KR1.out hb2); have KQ2 := Lib.hid (Tx.blk_later KQ1.out hb2); have hF2 := hF1'.trans (.of_below hb2); have hP2 := hP1'.below hb2; have x0 : w2.cell? ⟨w1.heap.size, 0, none⟩ = some (.int .i64 qo) := (Tx.blk KQ2.out).1 0; have x1 : w2.cell? ⟨w1.heap.size, 1, none⟩ = some (.int .i64 qf) := (Tx.blk KQ2.out).1 1; have x2 : w2.cell? ⟨w1.heap.size, 2, none⟩ = some (.slice qsa qsn qsc) := (Tx.blk KQ2.out).1 2; have x3 : w2.cell? ⟨w1.heap.size, 3, none⟩ = some (.int .i64 qa) := (Tx.blk KQ2.out).1 3; have x4 : w2.cell? ⟨w1.heap.size, 4, none⟩ = some (.int .i64 qb) := (Tx.blk KQ2.out).1 4; have x5 : w2.cell? ⟨w1.heap.size, 5, none⟩ = some (.slice qka qkn qkc) := (Tx.blk KQ2.out).1 5; have z0 : w2.cell? ⟨w.heap.size, 0, none⟩ = some (.int .i64 0) := (Tx.blk KR2.out).1 0; have z1 : w2.cell? ⟨w.heap.size, 1, none⟩ = some (.int .i64 0) := (Tx.blk KR2.out).1 1; have z2 : w2.cell? ⟨w.heap.size, 2, none⟩ = some (.slice none 0 0) := (Tx.blk KR2.out).1 2; have z3 : w2.cell? ⟨w.heap.size, 3, none⟩ = some (.int .i64 0) := (Tx.blk KR2.out).1 3; have z4 : w2.cell? ⟨w.heap.size, 4, none⟩ = some (.int .i64 0) := (Tx.blk KR2.out).1 4; have z5 : w2.cell? ⟨w.heap.size, 5, none⟩ = some (.slice none 0 0) := (Tx.blk KR2.out).1 5; have fr2 : ∀ i, w2.frozen? ⟨w.heap.size, i, none⟩ = false := (Tx.blk KR2.out).2.1; obtain ⟨ta2, tc2, kg2, _, _⟩ := hP2.blk; rw [HA5.out] at kg2; have eg2 : w2.cell? ⟨g, 1, none⟩ = some (.int .i64 (A5 : Int)) := (Tx.blk kg2).1 1; have fg2 : ∀ i, w2.frozen? ⟨g, i, none⟩ = false := (Tx.blk kg2).2.1; have KG2 := Lib.hid kg2; clear kg2)
    | (go_at_call 87; refine (hPr _ hP0).mono ?_; rintro e w1 h1; rw [HO.out] at h1; obtain ⟨qo, qf, qa, qb, qsa, qsn, qsc, qka, qkn, qkc, rfl, hq1, hP1, hF1⟩ := h1.get; have s1 := hF1.size; simp only [World.size_alloc] at s1 hq1; have hF1' : Qr.Fr g w (w1.alloc (.cells #[.int .i64 qo, .int .i64 qf, .slice qsa qsn qsc, .int .i64 qa, .int .i64 qb, .slice qka qkn qkc] 25)) := (((Qr.Fr.refl g w).alloc _).trans hF1).alloc _; have KR1 : Hid ((w1.alloc (.cells #[.int .i64 qo, .int .i64 qf, .slice qsa qsn qsc, .int .i64 qa, .int .i64 qb, .slice qka qkn qkc] 25)).heap[w.heap.size]? = some (.cells Qr.zeroQ 25 (0, 0))) := Lib.hid (Tx.blk_later ((hF1.block w.heap.size (by omega) (by simp)).trans (heap_alloc_new w _)) (Tx.newb w1 _)); have KQ1 : Hid ((w1.alloc (.cells #[.int .i64 qo, .int .i64 qf, .slice qsa qsn qsc, .int .i64 qa, .int .i64 qb, .slice qka qkn qkc] 25)).heap[w1.heap.size]? = some (.cells #[.int .i64 qo, .int .i64 qf, .slice qsa qsn qsc, .int .i64 qa, .int .i64 qb, .slice qka qkn qkc] 25 (0, 0))) := Lib.hid (heap_alloc_new w1 _); have hP1' : Qr.PS g l r' (w1.alloc (.cells #[.int .i64 qo, .int .i64 qf, .slice qsa qsn qsc, .int .i64 qa, .int .i64 qb, .slice qka qkn qkc] 25)) := hP1.below (Tx.newb w1 _)))
  refine bodyPost_ret (v := .agg #[.int .i64 qo, .int .i64 qf, .slice qsa qsn qsc, .int .i64 qa, .int .i64 qb, .slice qka qkn qkc]) (by simp [results, Tryz.results74, go_sem, z0, z1, z2, z3, z4, z5]) rfl ⟨⟨qo, qf, qsa, qsn, qsc, qa, qb, qka, qkn, qkc⟩, rfl, ?_, ?_, Qr.Fr.put6 hF2 (Nat.le_refl _) _ _ _ _ _ _⟩
  · exact (hq1.kp ((Qr.Kp.below (Tx.newb w1 _)).trans ((Qr.Kp.below hb2).trans (Qr.Kp.put6 (Qr.Kp.refl _ _) (by omega) _ _ _ _ _ _)))).mono (by omega)
  · exact Qr.PS.of' hP2 KG2.out (Tx.put6 (Below.refl _ _) (by omega) _ _ _ _ _ _) (List.suffix_refl _) (Qr.far6 KG2.out (show g ≠ w.heap.size by omega) _ _ _ _ _ _) (by rw [HA5.out])

set_option maxHeartbeats 1600000 in
theorem not_none2 (g : Nat) (l r : List Qr.Tok) (w : World) (hP : Qr.PS g l r w) (x : Qr.PR) (hPr : ∀ w, Qr.PS g l r w → Calls Tryz.prog 87 #[.pointer (some ⟨g, 0, none⟩)] w (Qr.Res g l x w)) (q : Qr.Qy) (r' : List Qr.Tok) (ho : x = some (q, r')) (hr' : r' <:+ r) (hi : Qr.isOp Qr.notB r' = true) (y : Qr.PR) (hPr2 : ∀ w, Qr.PS g l r'.tail w → Calls Tryz.prog 87 #[.pointer (some ⟨g, 0, none⟩)] w (Qr.Res g l y w)) (hy : y = none) :
    Calls Tryz.prog 74 #[.pointer (some ⟨g, 0, none⟩)] w fun e w' => e = .panicked [{ v := Qr.wrongP, recovered := false }] ∧ Qr.Fr g w w' := by
  have hgl := hP.lt
  have hll := hP.len
  have hP0 := hP.below (Tx.newb w (.cells Qr.zeroQ 25))
  have HPP := Lib.hid hP; clear hP
  have HO := Lib.hid ho; clear ho
  have hsl := hr'.length_le
  obtain ⟨A5, hA5⟩ : ∃ A5, l.length - r'.length = A5 := ⟨_, rfl⟩
  have hw5 := IntWalk.i64_in ((A5 : Int) + 1) ⟨by omega, by omega⟩
  have HA5 := Lib.hid hA5
  have hte5 := Qr.tail_eats (Qr.isOp_ne hi)
  have hA6 : (A5 : Int) + 1 = ((l.length - r'.tail.length : Nat) : Int) := by
    have h1 := hte5.2
    have h3 := hll
    have h4 := (hr'.trans HPP.out.suf).length_le
    rw [List.length_tail] at h1 ⊢
    omega
  have HA6 := Lib.hid hA6
  have HT5 := Lib.hid hte5
  have HI := Lib.hid hi; clear hi hA5 hA6 hte5
  have HY := Lib.hid hy; clear hy
  go_enter Tryz.func74, Tryz.ntmps74
  go_wp2_with (first
    | (go_at_call 51; refine (is_c g l r' Qr.notB _ hP1').mono ?_; rintro e w2 ⟨rfl, hb2⟩; rw [HI.out]; have s2 := hb2.size; simp only [World.size_alloc] at s2; have KR2 := Lib.hid (Tx.blk_later KR1.out hb2); have KQ2 := Lib.hid (Tx.blk_later KQ1.out hb2); have hF2 := hF1'.trans (.of_below hb2); have hP2 := hP1'.below hb2; have x0 : w2.cell? ⟨w1.heap.size, 0, none⟩ = some (.int .i64 qo) := (Tx.blk KQ2.out).1 0; have x1 : w2.cell? ⟨w1.heap.size, 1, none⟩ = some (.int .i64 qf) := (Tx.blk KQ2.out).1 1; have x2 : w2.cell? ⟨w1.heap.size, 2, none⟩ = some (.slice qsa qsn qsc) := (Tx.blk KQ2.out).1 2; have x3 : w2.cell? ⟨w1.heap.size, 3, none⟩ = some (.int .i64 qa) := (Tx.blk KQ2.out).1 3; have x4 : w2.cell? ⟨w1.heap.size, 4, none⟩ = some (.int .i64 qb) := (Tx.blk KQ2.out).1 4; have x5 : w2.cell? ⟨w1.heap.size, 5, none⟩ = some (.slice qka qkn qkc) := (Tx.blk KQ2.out).1 5; have z0 : w2.cell? ⟨w.heap.size, 0, none⟩ = some (.int .i64 0) := (Tx.blk KR2.out).1 0; have z1 : w2.cell? ⟨w.heap.size, 1, none⟩ = some (.int .i64 0) := (Tx.blk KR2.out).1 1; have z2 : w2.cell? ⟨w.heap.size, 2, none⟩ = some (.slice none 0 0) := (Tx.blk KR2.out).1 2; have z3 : w2.cell? ⟨w.heap.size, 3, none⟩ = some (.int .i64 0) := (Tx.blk KR2.out).1 3; have z4 : w2.cell? ⟨w.heap.size, 4, none⟩ = some (.int .i64 0) := (Tx.blk KR2.out).1 4; have z5 : w2.cell? ⟨w.heap.size, 5, none⟩ = some (.slice none 0 0) := (Tx.blk KR2.out).1 5; have fr2 : ∀ i, w2.frozen? ⟨w.heap.size, i, none⟩ = false := (Tx.blk KR2.out).2.1; obtain ⟨ta2, tc2, kg2, _, _⟩ := hP2.blk; rw [HA5.out] at kg2; have eg2 : w2.cell? ⟨g, 1, none⟩ = some (.int .i64 (A5 : Int)) := (Tx.blk kg2).1 1; have fg2 : ∀ i, w2.frozen? ⟨g, i, none⟩ = false := (Tx.blk kg2).2.1; have KG2 := Lib.hid kg2; clear kg2; have kg3 : (w2.setCell ⟨g, 1, none⟩ (.int .i64 ((A5 : Int) + 1))).heap[g]? = some (.cells #[.slice ta2 l.length tc2, .int .i64 ((A5 : Int) + 1)] 44 (0, 0)) := Qr.blk_set1 KG2.out _; have hF3 : Qr.Fr g w (w2.setCell ⟨g, 1, none⟩ (.int .i64 ((A5 : Int) + 1))) := hF2.set rfl _; have hP3 : Qr.PS g l r'.tail (w2.setCell ⟨g, 1, none⟩ (.int .i64 ((A5 : Int) + 1))) := Qr.PS.of' hP2 KG2.out ((Below.refl g _).setCell (Nat.le_refl g) _) HT5.out.1 kg3 HA6.out; have kR3 : (w2.setCell ⟨g, 1, none⟩ (.int .i64 ((A5 : Int) + 1))).heap[w.heap.size]? = some (.cells Qr.zeroQ 25 (0, 0)) := Tx.blk_far (a := ⟨g, 1, none⟩) KR2.out (show w.heap.size ≠ g by omega) _; have kQ3 : (w2.setCell ⟨g, 1, none⟩ (.int .i64 ((A5 : Int) + 1))).heap[w1.heap.size]? = some (.cells #[.int .i64 qo, .int .i64 qf, .slice qsa qsn qsc, .int .i64 qa, .int .i64 qb, .slice qka qkn qkc] 25 (0, 0)) := Tx.blk_far (a := ⟨g, 1, none⟩) KQ2.out (show w1.heap.size ≠ g by omega) _; have s3 : (w2.setCell ⟨g, 1, none⟩ (.int .i64 ((A5 : Int) + 1))).heap.size = w2.heap.size := (by simp [World.setCell]); clear x0 z0; clear x1 z1; clear x2 z2; clear x3 z3; clear x4 z4; clear x5 z5; clear fr2 kg3)
    | (go_at_call 87; refine (hPr _ hP0).mono ?_; rintro e w1 h1; rw [HO.out] at h1; obtain ⟨qo, qf, qa, qb, qsa, qsn, qsc, qka, qkn, qkc, rfl, hq1, hP1, hF1⟩ := h1.get; have s1 := hF1.size; simp only [World.size_alloc] at s1 hq1; have hF1' : Qr.Fr g w (w1.alloc (.cells #[.int .i64 qo, .int .i64 qf, .slice qsa qsn qsc, .int .i64 qa, .int .i64 qb, .slice qka qkn qkc] 25)) := (((Qr.Fr.refl g w).alloc _).trans hF1).alloc _; have KR1 : Hid ((w1.alloc (.cells #[.int .i64 qo, .int .i64 qf, .slice qsa qsn qsc, .int .i64 qa, .int .i64 qb, .slice qka qkn qkc] 25)).heap[w.heap.size]? = some (.cells Qr.zeroQ 25 (0, 0))) := Lib.hid (Tx.blk_later ((hF1.block w.heap.size (by omega) (by simp)).trans (heap_alloc_new w _)) (Tx.newb w1 _)); have KQ1 : Hid ((w1.alloc (.cells #[.int .i64 qo, .int .i64 qf, .slice qsa qsn qsc, .int .i64 qa, .int .i64 qb, .slice qka qkn qkc] 25)).heap[w1.heap.size]? = some (.cells #[.int .i64 qo, .int .i64 qf, .slice qsa qsn qsc, .int .i64 qa, .int .i64 qb, .slice qka qkn qkc] 25 (0, 0))) := Lib.hid (heap_alloc_new w1 _); have hP1' : Qr.PS g l r' (w1.alloc (.cells #[.int .i64 qo, .int .i64 qf, .slice qsa qsn qsc, .int .i64 qa, .int .i64 qb, .slice qka qkn qkc] 25)) := hP1.below (Tx.newb w1 _)))
  obtain ⟨W3, hW3⟩ : ∃ W3, W3 = (w2.setCell ⟨g, 1, none⟩ (.int .i64 ((A5 : Int) + 1))) := ⟨_, rfl⟩
  rw [← hW3] at hF3 hP3 kR3 kQ3 s3
  rw [← hW3]
  have hK3 : Qr.Kp (w.heap.size + 1) w1 W3 := by rw [hW3]; exact ((Qr.Kp.below (Tx.newb w1 _)).trans (Qr.Kp.below hb2)).set (show g < w.heap.size + 1 by omega) _
  clear hW3
  have x0 : W3.cell? ⟨w1.heap.size, 0, none⟩ = some (.int .i64 qo) := (Tx.blk kQ3).1 0; have x1 : W3.cell? ⟨w1.heap.size, 1, none⟩ = some (.int .i64 qf) := (Tx.blk kQ3).1 1; have x2 : W3.cell? ⟨w1.heap.size, 2, none⟩ = some (.slice qsa qsn qsc) := (Tx.blk kQ3).1 2; have x3 : W3.cell? ⟨w1.heap.size, 3, none⟩ = some (.int .i64 qa) := (Tx.blk kQ3).1 3; have x4 : W3.cell? ⟨w1.heap.size, 4, none⟩ = some (.int .i64 qb) := (Tx.blk kQ3).1 4; have x5 : W3.cell? ⟨w1.heap.size, 5, none⟩ = some (.slice qka qkn qkc) := (Tx.blk kQ3).1 5
  have KQ3 := Lib.hid kQ3
  have KR3 := Lib.hid kR3
  clear kQ3 kR3
  refine wp_region_held_drew (S := (fun w' => w'.cell? ⟨w1.heap.size, 0, none⟩ = some (.int .i64 qo) ∧ w'.cell? ⟨w1.heap.size, 1, none⟩ = some (.int .i64 qf) ∧ w'.cell? ⟨w1.heap.size, 2, none⟩ = some (.slice qsa qsn qsc) ∧ w'.cell? ⟨w1.heap.size, 3, none⟩ = some (.int .i64 qa) ∧ w'.cell? ⟨w1.heap.size, 4, none⟩ = some (.int .i64 qb) ∧ w'.cell? ⟨w1.heap.size, 5, none⟩ = some (.slice qka qkn qkc))) (by kernel_rfl) ?_ (fun hHeld => ?_)
  · exact ⟨x0, x1, x2, x3, x4, x5⟩
  refine wpAnyH_take (i := 0) (oi := ⟨some 17, _, _, _, _, _⟩) (v := .agg #[.int .i64 qo, .int .i64 qf, .slice qsa qsn qsc, .int .i64 qa, .int .i64 qb, .slice qka qkn qkc]) rfl (by kernel_rfl) (by kernel_rfl) (by kernel_rfl) (fun _ _ _ h => h) (Or.inl ⟨by rfl, ?_⟩) (by assumption) ?_
  · intro w hSw; (try dsimp only at hSw); go_simp
  simp only [Act.put, List.setIfInBounds_toArray, List.set_cons_zero, List.set_cons_succ]
  refine wpAnyH_take (i := 1) (oi := ⟨some 18, _, _, _, _, _⟩) (v := .pointer (some ⟨g, 0, none⟩)) rfl (by kernel_rfl) (by kernel_rfl) (by kernel_rfl) (fun _ _ _ h => h) (Or.inl ⟨by rfl, ?_⟩) (by assumption) ?_
  · intro w hSw; (try dsimp only at hSw); go_simp
  simp only [Act.put, List.setIfInBounds_toArray, List.set_cons_zero, List.set_cons_succ]
  refine wpAnyH_ready (rs := [2]) (by kernel_rfl) (by simp) ?_
  refine AllReadyH.cons (o := ⟨some 19, _, _, _, _, _⟩) rfl (fun K hK => ?_) AllReadyH.nil
  go_simp
  go_split_ands
  go_at_call 87
  refine (hPr2 _ (hP3.below ((Below.refl W3.heap.size W3).drew))).mono ?_
  rintro e w5 h5
  rw [HY.out] at h5
  obtain ⟨rfl, hF5⟩ := h5.bad
  have hF5' : Qr.Fr g w w5 := hF3.trans (((Qr.Fr.refl g W3).drew).trans hF5)
  exact ⟨rfl, rfl, hF5'⟩

namespace Qr
theorem fa_new {w : World} {K : Nat} {T : List QT} {t : TypeId} (h : w.heap[K]? = some (.cells (T.flatMap encQ).toArray t (0, 0))) (hm : T.length ≤ maxLen) : Br.FA encQ 6 w (some ⟨K, 0, none⟩) T.length T := by
  obtain ⟨c, _, hl⟩ := Tx.blk h
  refine ⟨Nat.le_refl _, hm, K, 0, fun _ => ⟨rfl, hl⟩, fun j i x u hx hu => ?_⟩
  have hi : i < 6 := by have := (List.getElem?_eq_some_iff.1 hu).1; rw [encQ_len] at this; exact this
  rw [Nat.zero_add, c, List.getElem?_toArray, Br.flat_at encQ 6 encQ_len T j i x hx hi, hu]
end Qr

set_option maxHeartbeats 1600000 in
theorem not_two (g : Nat) (l r : List Qr.Tok) (w : World) (hP : Qr.PS g l r w) (x : Qr.PR) (hPr : ∀ w, Qr.PS g l r w → Calls Tryz.prog 87 #[.pointer (some ⟨g, 0, none⟩)] w (Qr.Res g l x w)) (q : Qr.Qy) (r' : List Qr.Tok) (ho : x = some (q, r')) (hr' : r' <:+ r) (hi : Qr.isOp Qr.notB r' = true) (y : Qr.PR) (hPr2 : ∀ w, Qr.PS g l r'.tail w → Calls Tryz.prog 87 #[.pointer (some ⟨g, 0, none⟩)] w (Qr.Res g l y w)) (q2 : Qr.Qy) (r2 : List Qr.Tok) (hy : y = some (q2, r2)) :
    Calls Tryz.prog 74 #[.pointer (some ⟨g, 0, none⟩)] w fun e w' => Qr.Res g l (some (.mk 7 0 [] 0 0 [q, q2], r2)) w e w' := by
  have hgl := hP.lt
  have hll := hP.len
  have hP0 := hP.below (Tx.newb w (.cells Qr.zeroQ 25))
  have HPP := Lib.hid hP; clear hP
  have HO := Lib.hid ho; clear ho
  have hsl := hr'.length_le
  obtain ⟨A5, hA5⟩ : ∃ A5, l.length - r'.length = A5 := ⟨_, rfl⟩
  have hw5 := IntWalk.i64_in ((A5 : Int) + 1) ⟨by omega, by omega⟩
  have HA5 := Lib.hid hA5
  have hte5 := Qr.tail_eats (Qr.isOp_ne hi)
  have hA6 : (A5 : Int) + 1 = ((l.length - r'.tail.length : Nat) : Int) := by
    have h1 := hte5.2
    have h3 := hll
    have h4 := (hr'.trans HPP.out.suf).length_le
    rw [List.length_tail] at h1 ⊢
    omega
  have HA6 := Lib.hid hA6
  have HT5 := Lib.hid hte5
  have HI := Lib.hid hi; clear hi hA5 hA6 hte5
  have HY := Lib.hid hy; clear hy
  go_enter Tryz.func74, Tryz.ntmps74
  go_wp2_with (first
    | (go_at_call 51; refine (is_c g l r' Qr.notB _ hP1').mono ?_; rintro e w2 ⟨rfl, hb2⟩; rw [HI.out]; have s2 := hb2.size; simp only [World.size_alloc] at s2; have KR2 := Lib.hid (Tx.blk_later KR1.out hb2); have KQ2 := Lib.hid (Tx.blk_later KQ1.out hb2); have hF2 := hF1'.trans (.of_below hb2); have hP2 := hP1'.below hb2; have x0 : w2.cell? ⟨w1.heap.size, 0, none⟩ = some (.int .i64 qo) := (Tx.blk KQ2.out).1 0; have x1 : w2.cell? ⟨w1.heap.size, 1, none⟩ = some (.int .i64 qf) := (Tx.blk KQ2.out).1 1; have x2 : w2.cell? ⟨w1.heap.size, 2, none⟩ = some (.slice qsa qsn qsc) := (Tx.blk KQ2.out).1 2; have x3 : w2.cell? ⟨w1.heap.size, 3, none⟩ = some (.int .i64 qa) := (Tx.blk KQ2.out).1 3; have x4 : w2.cell? ⟨w1.heap.size, 4, none⟩ = some (.int .i64 qb) := (Tx.blk KQ2.out).1 4; have x5 : w2.cell? ⟨w1.heap.size, 5, none⟩ = some (.slice qka qkn qkc) := (Tx.blk KQ2.out).1 5; have z0 : w2.cell? ⟨w.heap.size, 0, none⟩ = some (.int .i64 0) := (Tx.blk KR2.out).1 0; have z1 : w2.cell? ⟨w.heap.size, 1, none⟩ = some (.int .i64 0) := (Tx.blk KR2.out).1 1; have z2 : w2.cell? ⟨w.heap.size, 2, none⟩ = some (.slice none 0 0) := (Tx.blk KR2.out).1 2; have z3 : w2.cell? ⟨w.heap.size, 3, none⟩ = some (.int .i64 0) := (Tx.blk KR2.out).1 3; have z4 : w2.cell? ⟨w.heap.size, 4, none⟩ = some (.int .i64 0) := (Tx.blk KR2.out).1 4; have z5 : w2.cell? ⟨w.heap.size, 5, none⟩ = some (.slice none 0 0) := (Tx.blk KR2.out).1 5; have fr2 : ∀ i, w2.frozen? ⟨w.heap.size, i, none⟩ = false := (Tx.blk KR2.out).2.1; obtain ⟨ta2, tc2, kg2, _, _⟩ := hP2.blk; rw [HA5.out] at kg2; have eg2 : w2.cell? ⟨g, 1, none⟩ = some (.int .i64 (A5 : Int)) := (Tx.blk kg2).1 1; have fg2 : ∀ i, w2.frozen? ⟨g, i, none⟩ = false := (Tx.blk kg2).2.1; have KG2 := Lib.hid kg2; clear kg2; have kg3 : (w2.setCell ⟨g, 1, none⟩ (.int .i64 ((A5 : Int) + 1))).heap[g]? = some (.cells #[.slice ta2 l.length tc2, .int .i64 ((A5 : Int) + 1)] 44 (0, 0)) := Qr.blk_set1 KG2.out _; have hF3 : Qr.Fr g w (w2.setCell ⟨g, 1, none⟩ (.int .i64 ((A5 : Int) + 1))) := hF2.set rfl _; have hP3 : Qr.PS g l r'.tail (w2.setCell ⟨g, 1, none⟩ (.int .i64 ((A5 : Int) + 1))) := Qr.PS.of' hP2 KG2.out ((Below.refl g _).setCell (Nat.le_refl g) _) HT5.out.1 kg3 HA6.out; have kR3 : (w2.setCell ⟨g, 1, none⟩ (.int .i64 ((A5 : Int) + 1))).heap[w.heap.size]? = some (.cells Qr.zeroQ 25 (0, 0)) := Tx.blk_far (a := ⟨g, 1, none⟩) KR2.out (show w.heap.size ≠ g by omega) _; have kQ3 : (w2.setCell ⟨g, 1, none⟩ (.int .i64 ((A5 : Int) + 1))).heap[w1.heap.size]? = some (.cells #[.int .i64 qo, .int .i64 qf, .slice qsa qsn qsc, .int .i64 qa, .int .i64 qb, .slice qka qkn qkc] 25 (0, 0)) := Tx.blk_far (a := ⟨g, 1, none⟩) KQ2.out (show w1.heap.size ≠ g by omega) _; have s3 : (w2.setCell ⟨g, 1, none⟩ (.int .i64 ((A5 : Int) + 1))).heap.size = w2.heap.size := (by simp [World.setCell]); clear x0 z0; clear x1 z1; clear x2 z2; clear x3 z3; clear x4 z4; clear x5 z5; clear fr2 kg3)
    | (go_at_call 87; refine (hPr _ hP0).mono ?_; rintro e w1 h1; rw [HO.out] at h1; obtain ⟨qo, qf, qa, qb, qsa, qsn, qsc, qka, qkn, qkc, rfl, hq1, hP1, hF1⟩ := h1.get; have s1 := hF1.size; simp only [World.size_alloc] at s1 hq1; have hF1' : Qr.Fr g w (w1.alloc (.cells #[.int .i64 qo, .int .i64 qf, .slice qsa qsn qsc, .int .i64 qa, .int .i64 qb, .slice qka qkn qkc] 25)) := (((Qr.Fr.refl g w).alloc _).trans hF1).alloc _; have KR1 : Hid ((w1.alloc (.cells #[.int .i64 qo, .int .i64 qf, .slice qsa qsn qsc, .int .i64 qa, .int .i64 qb, .slice qka qkn qkc] 25)).heap[w.heap.size]? = some (.cells Qr.zeroQ 25 (0, 0))) := Lib.hid (Tx.blk_later ((hF1.block w.heap.size (by omega) (by simp)).trans (heap_alloc_new w _)) (Tx.newb w1 _)); have KQ1 : Hid ((w1.alloc (.cells #[.int .i64 qo, .int .i64 qf, .slice qsa qsn qsc, .int .i64 qa, .int .i64 qb, .slice qka qkn qkc] 25)).heap[w1.heap.size]? = some (.cells #[.int .i64 qo, .int .i64 qf, .slice qsa qsn qsc, .int .i64 qa, .int .i64 qb, .slice qka qkn qkc] 25 (0, 0))) := Lib.hid (heap_alloc_new w1 _); have hP1' : Qr.PS g l r' (w1.alloc (.cells #[.int .i64 qo, .int .i64 qf, .slice qsa qsn qsc, .int .i64 qa, .int .i64 qb, .slice qka qkn qkc] 25)) := hP1.below (Tx.newb w1 _)))
  obtain ⟨W3, hW3⟩ : ∃ W3, W3 = (w2.setCell ⟨g, 1, none⟩ (.int .i64 ((A5 : Int) + 1))) := ⟨_, rfl⟩
  rw [← hW3] at hF3 hP3 kR3 kQ3 s3
  rw [← hW3]
  have hK3 : Qr.Kp (w.heap.size + 1) w1 W3 := by rw [hW3]; exact ((Qr.Kp.below (Tx.newb w1 _)).trans (Qr.Kp.below hb2)).set (show g < w.heap.size + 1 by omega) _
  clear hW3
  have x0 : W3.cell? ⟨w1.heap.size, 0, none⟩ = some (.int .i64 qo) := (Tx.blk kQ3).1 0; have x1 : W3.cell? ⟨w1.heap.size, 1, none⟩ = some (.int .i64 qf) := (Tx.blk kQ3).1 1; have x2 : W3.cell? ⟨w1.heap.size, 2, none⟩ = some (.slice qsa qsn qsc) := (Tx.blk kQ3).1 2; have x3 : W3.cell? ⟨w1.heap.size, 3, none⟩ = some (.int .i64 qa) := (Tx.blk kQ3).1 3; have x4 : W3.cell? ⟨w1.heap.size, 4, none⟩ = some (.int .i64 qb) := (Tx.blk kQ3).1 4; have x5 : W3.cell? ⟨w1.heap.size, 5, none⟩ = some (.slice qka qkn qkc) := (Tx.blk kQ3).1 5
  have KQ3 := Lib.hid kQ3
  have KR3 := Lib.hid kR3
  clear kQ3 kR3
  go_region_with (go_at_call 87; refine (hPr2 _ (hP3.below ((Below.refl W3.heap.size W3).drew))).mono ?_; rintro e w5 h5; rw [HY.out] at h5; obtain ⟨po, pf, pa, pb, psa, psn, psc, pka, pkn, pkc, rfl, hq5, hP5, hF5⟩ := h5.get; have s5 := hF5.size; have s5d : W3.heap.size ≤ w5.heap.size := s5; have hF53 : Qr.Fr g W3 w5 := ((Qr.Fr.refl g W3).drew).trans hF5; have hF5' : Qr.Fr g w w5 := hF3.trans hF53; have kQ5 := (hF53.block w1.heap.size (by omega) (Array.getElem?_eq_some_iff.1 KQ3.out).1).trans KQ3.out; have kR5 := (hF53.block w.heap.size (by omega) (Array.getElem?_eq_some_iff.1 KR3.out).1).trans KR3.out; have v0 : w5.cell? ⟨w1.heap.size, 0, none⟩ = some (.int .i64 qo) := (Tx.blk kQ5).1 0; have v1 : w5.cell? ⟨w1.heap.size, 1, none⟩ = some (.int .i64 qf) := (Tx.blk kQ5).1 1; have v2 : w5.cell? ⟨w1.heap.size, 2, none⟩ = some (.slice qsa qsn qsc) := (Tx.blk kQ5).1 2; have v3 : w5.cell? ⟨w1.heap.size, 3, none⟩ = some (.int .i64 qa) := (Tx.blk kQ5).1 3; have v4 : w5.cell? ⟨w1.heap.size, 4, none⟩ = some (.int .i64 qb) := (Tx.blk kQ5).1 4; have v5 : w5.cell? ⟨w1.heap.size, 5, none⟩ = some (.slice qka qkn qkc) := (Tx.blk kQ5).1 5; have kR6 : ∀ o, (w5.alloc o).heap[w.heap.size]? = some (.cells Qr.zeroQ 25 (0, 0)) := (fun o => Tx.blk_later kR5 (Tx.newb w5 o)); have y0 : ∀ o, (w5.alloc o).cell? ⟨w.heap.size, 0, none⟩ = some (.int .i64 0) := (fun o => (Tx.blk (kR6 o)).1 0); have y1 : ∀ o, (w5.alloc o).cell? ⟨w.heap.size, 1, none⟩ = some (.int .i64 0) := (fun o => (Tx.blk (kR6 o)).1 1); have y2 : ∀ o, (w5.alloc o).cell? ⟨w.heap.size, 2, none⟩ = some (.slice none 0 0) := (fun o => (Tx.blk (kR6 o)).1 2); have y3 : ∀ o, (w5.alloc o).cell? ⟨w.heap.size, 3, none⟩ = some (.int .i64 0) := (fun o => (Tx.blk (kR6 o)).1 3); have y4 : ∀ o, (w5.alloc o).cell? ⟨w.heap.size, 4, none⟩ = some (.int .i64 0) := (fun o => (Tx.blk (kR6 o)).1 4); have y5 : ∀ o, (w5.alloc o).cell? ⟨w.heap.size, 5, none⟩ = some (.slice none 0 0) := (fun o => (Tx.blk (kR6 o)).1 5); have fr6 : ∀ o i, (w5.alloc o).frozen? ⟨w.heap.size, i, none⟩ = false := (fun o => (Tx.blk (kR6 o)).2.1); clear kQ5 kR5 kR6)
  all_goals
    go_wp2
    refine bodyPost_ret (v := .agg #[.int .i64 7, .int .i64 0, .slice none 0 0, .int .i64 0, .int .i64 0, .slice (some ⟨w5.heap.size, 0, none⟩) 2 2]) (by simp [results, Tryz.results74, go_sem, y0, y1, y2, y3, y4, y5]) rfl ?_
    obtain ⟨W6, hW6⟩ : ∃ W6, W6 = w5.alloc (.cells #[.int .i64 qo, .int .i64 qf, .slice qsa qsn qsc, .int .i64 qa, .int .i64 qb, .slice qka qkn qkc, .int .i64 po, .int .i64 pf, .slice psa psn psc, .int .i64 pa, .int .i64 pb, .slice pka pkn pkc] 25) := ⟨_, rfl⟩
    have hblk : W6.heap[w5.heap.size]? = some (.cells ([(⟨qo, qf, qsa, qsn, qsc, qa, qb, qka, qkn, qkc⟩ : Qr.QT), (⟨po, pf, psa, psn, psc, pa, pb, pka, pkn, pkc⟩ : Qr.QT)].flatMap Qr.encQ).toArray 25 (0, 0)) := by
      rw [hW6]
      exact heap_alloc_new w5 _
    have hK6 : Qr.Kp (w.heap.size + 1) w5 W6 := by rw [hW6]; exact Qr.Kp.below (Tx.newb _ _)
    have hB6 : Below w5.heap.size w5 W6 := by rw [hW6]; exact Tx.newb _ _
    have hF6 : Qr.Fr g w W6 := by rw [hW6]; exact hF5'.alloc _
    rw [← hW6]
    clear hW6
    have hK1 := hK3.trans ((Qr.Kp.fr hF53 (show g < w.heap.size + 1 by omega)).trans hK6)
    have hdd : W3.drew.heap.size = W3.heap.size := rfl
    have hq1' := (hq1.kp (Qr.Kp.put6 hK1 (show w.heap.size < w.heap.size + 1 by omega) (.int .i64 7) (.int .i64 0) (.slice none 0 0) (.int .i64 0) (.int .i64 0) (.slice (some ⟨w5.heap.size, 0, none⟩) 2 2))).mono (show w.heap.size ≤ w.heap.size + 1 by omega)
    have hq5' := (hq5.kp (Qr.Kp.put6 (hK6.mono (show w.heap.size + 1 ≤ W3.drew.heap.size by omega)) (show w.heap.size < W3.drew.heap.size by omega) (.int .i64 7) (.int .i64 0) (.slice none 0 0) (.int .i64 0) (.int .i64 0) (.slice (some ⟨w5.heap.size, 0, none⟩) 2 2))).mono (show w.heap.size ≤ W3.drew.heap.size by omega)
    have hfa := Qr.fa_new (Qr.far6 hblk (show w5.heap.size ≠ w.heap.size by omega) (.int .i64 7) (.int .i64 0) (.slice none 0 0) (.int .i64 0) (.int .i64 0) (.slice (some ⟨w5.heap.size, 0, none⟩) 2 2)) (by show 2 ≤ maxLen; unfold maxLen; omega)
    have hql := (Qr.QL.one (t := ⟨qo, qf, qsa, qsn, qsc, qa, qb, qka, qkn, qkc⟩) hq1').app (Qr.QL.one (t := ⟨po, pf, psa, psn, psc, pa, pb, pka, pkn, pkc⟩) hq5')
    have hka := Qr.KA.of_ts hql hfa (fun _ ad e9 => by cases e9; simp only; omega)
    obtain ⟨ta6, tc6, kg6, _, _⟩ := hP5.blk
    have kg7 := Tx.blk_later kg6 hB6
    exact ⟨⟨7, 0, none, 0, 0, 0, 0, some ⟨w5.heap.size, 0, none⟩, 2, 2⟩, rfl, Qr.QC.of_kids (ws := []) (.inl ⟨rfl, _, _, rfl⟩) (fun h => absurd rfl h) hka, Qr.PS.of' hP5 kg6 (Tx.put6 (hB6.mono (show g ≤ w5.heap.size by omega)) (show g ≤ w.heap.size by omega) _ _ _ _ _ _) (List.suffix_refl _) (Qr.far6 kg7 (show g ≠ w.heap.size by omega) _ _ _ _ _ _) rfl, Qr.Fr.put6 hF6 (Nat.le_refl _) _ _ _ _ _ _⟩

theorem not_c (g n : Nat) (l : List Qr.Tok) (hPr : ∀ (r : List Qr.Tok) (w : World), 8 * r.length + 4 ≤ n → Qr.PS g l r w → Calls Tryz.prog 87 #[.pointer (some ⟨g, 0, none⟩)] w (Qr.Res g l (Qr.pPrim true n r) w))
    (r : List Qr.Tok) (w : World) (hn : 8 * r.length + 5 ≤ n + 1) (hP : Qr.PS g l r w) :
    Calls Tryz.prog 74 #[.pointer (some ⟨g, 0, none⟩)] w (Qr.Res g l (Qr.pNot true (n + 1) r) w) := by
  have h1 := fun w h => hPr r w (by omega) h
  have he := (Qr.eats_all true n).2.2.2.2.2 r
  have e0 : Qr.pNot true (n + 1) r = match Qr.pPrim true n r with
      | none => none
      | some (q, r') => if Qr.isOp Qr.notB r' = true then match Qr.pPrim true n r'.tail with
          | none => none
          | some (q2, r2) => some (.mk 7 0 [] 0 0 [q, q2], r2)
        else some (q, r') := by rw [Qr.pNot]; rfl
  cases ho : Qr.pPrim true n r with
  | none =>
    rw [ho] at h1 e0
    rw [e0]
    exact not_none g l r w hP none h1 rfl
  | some p =>
    obtain ⟨q, r'⟩ := p
    rw [ho] at h1 e0
    have hs := he q r' ho
    by_cases hi : Qr.isOp Qr.notB r' = true
    · have hte := Qr.tail_eats (Qr.isOp_ne hi)
      have h2 := fun w h => hPr r'.tail w (by have := hs.2; have := hte.2; omega) h
      cases hy : Qr.pPrim true n r'.tail with
      | none =>
        rw [hy] at h2
        rw [show Qr.pNot true (n + 1) r = none by rw [e0]; simp only; rw [if_pos hi, hy]]
        exact not_none2 g l r w hP _ h1 q r' rfl hs.1 hi none h2 rfl
      | some p2 =>
        obtain ⟨q2, r2⟩ := p2
        rw [hy] at h2
        rw [show Qr.pNot true (n + 1) r = some (.mk 7 0 [] 0 0 [q, q2], r2) by rw [e0]; simp only; rw [if_pos hi, hy]]
        exact not_two g l r w hP _ h1 q r' rfl hs.1 hi _ h2 q2 r2 rfl
    · rw [show Qr.pNot true (n + 1) r = some (q, r') by rw [e0]; simp only; rw [if_neg hi]]
      exact not_plain g l r w hP _ h1 q r' rfl hs.1 (by simpa using hi)
end Go.Proofs.YtkahplbjbidemaaGreatDoor

/- Searches gathered in a list that the call owns; how many nodes are read. -/
namespace Go.Proofs.YtkahplbjbidemaaGreatDoor
open Go.RowKit
set_option maxRecDepth 100000

namespace Qr
/-- The search lies as it lay, apart from the list's own block. -/
def Held (base : Nat) (w : World) (own : Option Nat) (k : Qy) (t : QT) : Prop :=
  ∃ B w0, QC B w0 k (encQ t) ∧ Kp B w0 w ∧ (∀ b, own = some b → b < B ∨ w0.heap.size ≤ b) ∧ base ≤ B
def HL (base : Nat) (w : World) (own : Option Nat) (ks : List Qy) (T : List QT) : Prop := T.length = ks.length ∧ ∀ (j : Nat) k t, ks[j]? = some k → T[j]? = some t → Held base w own k t
theorem HL.fr {g base : Nat} {w w' : World} {own : Option Nat} {ks : List Qy} {T : List QT} (h : HL base w own ks T) (hF : Fr g w w') (hg : g < base) : HL base w' own ks T :=
  ⟨h.1, fun j k t h1 h2 => by
    obtain ⟨B, w0, a, b, c, d⟩ := h.2 j k t h1 h2
    exact ⟨B, w0, a, b.trans (Kp.fr hF (by omega)), c, d⟩⟩
theorem HL.grown {base : Nat} {w w' : World} {own own' : Option Nat} {ks : List Qy} {T : List QT} (h : HL base w own ks T) (hg : w.grownBy w' own) (ho : own' = own ∨ own' = some w.heap.size) : HL base w' own' ks T :=
  ⟨h.1, fun j k t h1 h2 => by
    obtain ⟨B, w0, a, b, c, d⟩ := h.2 j k t h1 h2
    refine ⟨B, w0, a, ⟨Nat.le_trans b.size hg.size, fun i i1 i2 => ?_⟩, fun x hx => ?_, d⟩
    · exact (hg.block i (Nat.lt_of_lt_of_le i2 b.size) (fun e => by have := c i e.symm; omega)).trans (b.block i i1 i2)
    · rcases ho with ho | ho
      · exact c x (by rw [← ho]; exact hx)
      · rw [ho] at hx
        injection hx with hx
        have := b.size
        omega⟩
theorem HL.one {base B : Nat} {w : World} {own : Option Nat} {k : Qy} {t : QT} (h : QC B w k (encQ t)) (hb : base ≤ B) (ho : ∀ b, own = some b → b < B ∨ w.heap.size ≤ b) : HL base w own [k] [t] := by
  refine ⟨rfl, fun j k2 t2 h1 h2 => ?_⟩
  match j, h1, h2 with
  | 0, h1, h2 => injection h1 with h1; injection h2 with h2; rw [← h1, ← h2]; exact ⟨B, w, h, Kp.refl _ _, ho, hb⟩
  | j + 1, h1, _ => simp at h1
theorem HL.one' {base B : Nat} {w0 w : World} {own : Option Nat} {k : Qy} {t : QT} (h : QC B w0 k (encQ t)) (hK : Kp B w0 w) (hb : base ≤ B) (ho : ∀ b, own = some b → b < B ∨ w0.heap.size ≤ b) : HL base w own [k] [t] := by
  refine ⟨rfl, fun j k2 t2 h1 h2 => ?_⟩
  match j, h1, h2 with
  | 0, h1, h2 => injection h1 with h1; injection h2 with h2; rw [← h1, ← h2]; exact ⟨B, w0, h, hK, ho, hb⟩
  | j + 1, h1, _ => simp at h1
theorem HL.app {base : Nat} {w : World} {own : Option Nat} {ks ks2 : List Qy} {T T2 : List QT} (h : HL base w own ks T) (h2 : HL base w own ks2 T2) : HL base w own (ks ++ ks2) (T ++ T2) := by
  refine ⟨by rw [List.length_append, List.length_append, h.1, h2.1], fun j k t hk ht => ?_⟩
  by_cases hj : j < ks.length
  · rw [List.getElem?_append_left hj] at hk
    rw [List.getElem?_append_left (by rw [h.1]; exact hj)] at ht
    exact h.2 j k t hk ht
  · rw [List.getElem?_append_right (by omega)] at hk
    rw [List.getElem?_append_right (by rw [h.1]; omega), h.1] at ht
    exact h2.2 _ k t hk ht
theorem HL.ql {base : Nat} {w : World} {own : Option Nat} {ks : List Qy} {T : List QT} (h : HL base w own ks T) : QL base w ks T :=
  ⟨h.1, fun j k t h1 h2 => by
    obtain ⟨B, w0, a, b, _, d⟩ := h.2 j k t h1 h2
    exact (a.kp b).mono d⟩
theorem HL.ka {base e : Nat} {w : World} {v : Value} {ks : List Qy} {T : List QT} (h : HL base w v.ownBlock ks T) (ho : w.ownsRow base e 6 v T.length (T.flatMap encQ)) : ∃ a c, v = .slice a ks.length c ∧ KA base w a c ks := by
  obtain ⟨a, c, e1, hf, hb⟩ := Br.FA.of_own encQ_len ho rfl
  exact ⟨a, c, by rw [← h.1]; exact e1, KA.of_ts h.ql hf (fun _ ad had => hb ad had)⟩
theorem PS.low {g : Nat} {l r : List Tok} {w w' : World} (h : PS g l r w) (hB : Below (g + 1) w w') : PS g l r w' := by
  obtain ⟨ta, tc, kg, _, _⟩ := h.blk
  exact h.of' kg (hB.mono (by omega)) (List.suffix_refl _) ((hB.block g (by omega)).trans kg) rfl
/-- Where the parser stands. -/
def atOf (g : Nat) (w : World) : Nat := match w.cell? ⟨g, 1, none⟩ with
  | some (.int _ n) => n.toNat
  | _ => 0
theorem PS.at_ {g : Nat} {l r : List Tok} {w : World} (h : PS g l r w) : atOf g w = l.length - r.length := by
  obtain ⟨_, _, _, h1, _⟩ := h.cells
  unfold atOf
  rw [h1]
  simp

/-! nodes -/
theorem nodesL_flat (op : Int) : ∀ l : List Qy, nodesL (l.flatMap (flat op)) ≤ nodesL l
  | [] => by simp [nodesL]
  | .mk o f ws a b ks :: r => by
    have h1 := nodesL_flat op r
    rw [List.flatMap_cons, nodesL_app, nodesL]
    have h2 : nodesL (flat op (.mk o f ws a b ks)) ≤ nodes (.mk o f ws a b ks) := by
      unfold flat
      split
      · simp only [Qy.ks, nodes]; omega
      · simp only [nodesL]; omega
    omega
theorem joined_nodes (op : Int) (l : List Qy) (h : l ≠ []) : nodes (joined op l) + 1 ≤ nodesL l + l.length := by
  by_cases h1 : l.length = 1
  · match l, h1 with
    | [x], _ => simp only [joined_one, nodesL, List.length_cons, List.length_nil]; omega
  · rw [joined_many op l h1]
    have := nodesL_flat op l
    have hl : 2 ≤ l.length := by
      cases l with
      | nil => exact absurd rfl h
      | cons x r => cases r with
        | nil => simp at h1
        | cons y s => simp
    simp only [nodes]
    omega
def Nb (r : List Tok) (x : PR) : Prop := ∀ q r', x = some (q, r') → nodes q + 1 + 2 * r'.length ≤ 2 * r.length
theorem Nb.leaf {r : List Tok} {x : PR} (h : Eats r x) (hn : ∀ q r', x = some (q, r') → nodes q = 1) : Nb r x := fun q r' e => by
  have := (h q r' e).2
  have := hn q r' e
  omega
theorem leaf_n (o f a b : Int) (ws : List ByteArray) : nodes (.mk o f ws a b []) = 1 := by simp [nodes, nodesL]
theorem years_leaf (st : Bool) (r : List Tok) : ∀ q r', pYears st r = some (q, r') → nodes q = 1 := by
  intro q r' h
  unfold pYears at h
  repeat' split at h
  all_goals first | (cases h; done) | (injection h with h; injection h with h _; rw [← h]; exact leaf_n _ _ _ _ _)
theorem term_leaf (st : Bool) (f : Int) (r : List Tok) : ∀ q r', pTerm st f r = some (q, r') → nodes q = 1 := by
  intro q r' h
  unfold pTerm at h
  repeat' split at h
  all_goals first | (cases h; done) | (injection h with h; injection h with h _; rw [← h]; exact leaf_n _ _ _ _ _)
theorem flat_leaf (st : Bool) (r : List Tok) : ∀ q r', pFlat st r = some (q, r') → nodes q = 1 := by
  intro q r' h
  unfold pFlat at h
  repeat' split at h
  all_goals first | (cases h; done) | exact years_leaf _ _ _ _ h | exact term_leaf _ _ _ _ _ h
theorem nodes_all (st : Bool) : ∀ n, (∀ r, Nb r (pOr st n r)) ∧ (∀ acc r q r', acc ≠ [] → lOr st n acc r = some (q, r') → nodes q + 1 + 2 * r'.length ≤ nodesL acc + acc.length + 2 * r.length) ∧ (∀ r, Nb r (pAnd st n r)) ∧ (∀ acc r q r', acc ≠ [] → lAnd st n acc r = some (q, r') → nodes q + 1 + 2 * r'.length ≤ nodesL acc + acc.length + 2 * r.length) ∧ (∀ r, Nb r (pNot st n r)) ∧ (∀ r, Nb r (pPrim st n r))
  | 0 => ⟨fun r q r' h => by simp [pOr] at h, fun _ _ _ _ _ h => by simp [lOr] at h, fun r q r' h => by simp [pAnd] at h, fun _ _ _ _ _ h => by simp [lAnd] at h, fun r q r' h => by simp [pNot] at h, fun r q r' h => by simp [pPrim] at h⟩
  | n + 1 => by
    obtain ⟨h1, h2, h3, h4, h5, h6⟩ := nodes_all st n
    have app : ∀ (acc : List Qy) (q : Qy), nodesL (acc ++ [q]) + (acc ++ [q]).length = nodesL acc + acc.length + nodes q + 1 := fun acc q => by
      rw [nodesL_app, List.length_append]
      simp only [nodesL, List.length_cons, List.length_nil]
      omega
    refine ⟨fun r q r' h => ?_, fun acc r q r' hne h => ?_, fun r q r' h => ?_, fun acc r q r' hne h => ?_, fun r q r' h => ?_, fun r q r' h => ?_⟩
    · unfold pOr at h
      split at h
      · cases h
      · rename_i q1 r1 he
        have a := h3 r q1 r1 he
        have b := h2 [q1] r1 q r' (by simp) h
        simp only [nodesL, List.length_cons, List.length_nil] at b
        omega
    · unfold lOr at h
      split at h
      · rename_i ho
        have ht := (tail_eats (isOp_ne ho)).2
        split at h
        · cases h
        · rename_i q1 r1 he
          have a := h3 r.tail q1 r1 he
          have b := h2 (acc ++ [q1]) r1 q r' (by simp) h
          rw [app] at b
          omega
      · injection h with h; injection h with h h'; rw [← h, ← h']
        have := joined_nodes 6 acc hne
        omega
    · unfold pAnd at h
      split at h
      · cases h
      · rename_i q1 r1 he
        have a := h5 r q1 r1 he
        have b := h4 [q1] r1 q r' (by simp) h
        simp only [nodesL, List.length_cons, List.length_nil] at b
        omega
    · unfold lAnd at h
      split at h
      · rename_i ho
        have ht := (tail_eats (isOp_ne ho)).2
        split at h
        · cases h
        · rename_i q1 r1 he
          have a := h5 r.tail q1 r1 he
          have b := h4 (acc ++ [q1]) r1 q r' (by simp) h
          rw [app] at b
          omega
      · split at h
        · split at h
          · cases h
          · rename_i q1 r1 he
            have a := h5 r q1 r1 he
            have b := h4 (acc ++ [q1]) r1 q r' (by simp) h
            rw [app] at b
            omega
        · injection h with h; injection h with h h'; rw [← h, ← h']
          have := joined_nodes 5 acc hne
          omega
    · unfold pNot at h
      split at h
      · cases h
      · rename_i q1 r1 he
        have a := h6 r q1 r1 he
        split at h
        · rename_i ho
          have ht := (tail_eats (isOp_ne ho)).2
          split at h
          · cases h
          · rename_i q2 r2 he2
            have b := h6 _ _ _ he2
            injection h with h; injection h with h h'; rw [← h, ← h']
            simp only [nodes, nodesL]
            omega
        · injection h with h; injection h with h h'; rw [← h, ← h']
          exact a
    · unfold pPrim at h
      split at h
      · rename_i hk
        have ht := (tail_eats (r := r) (by rw [hk]; decide)).2
        split at h
        · cases h
        · rename_i q1 r1 he
          have a := h1 _ _ _ he
          split at h
          · rename_i h41
            have hc := (tail_eats (r := r1) (by rw [h41]; decide)).2
            injection h with h; injection h with h h'; rw [← h, ← h']
            omega
          · cases h
      · exact Nb.leaf (eats_flat st r) (flat_leaf st r) q r' h
end Qr

theorem joined_c (B : Nat) (op : Int) (l : List Qr.Qy) (a : Option Addr) (c : Nat) (w : World) (hK : Qr.KA B w a c l) (hn : Qr.nodesL l ≤ 1000000) (hBw : B ≤ w.heap.size) :
    Calls Tryz.prog 52 #[.int .i64 op, .slice a l.length c] w fun e w' => ∃ t, e = .returned (.agg (Qr.encQ t).toArray) ∧ Qr.QC B w' (Qr.joined op l) (Qr.encQ t) ∧ Below w.heap.size w w' := by
  by_cases h1 : l.length = 1
  · match l, h1, hK with
    | [x], _, hK => exact joined_1 B op x a c w hK
  · exact joined_m B op l a c w hK h1 hn hBw
end Go.Proofs.YtkahplbjbidemaaGreatDoor

/- Parts that stand one behind the other are read: what the program's call does. -/
namespace Go.Proofs.YtkahplbjbidemaaGreatDoor
open Go.RowKit
set_option maxRecDepth 100000
attribute [local go_sem] Qr.run_tok0 Qr.run_tok1 Qr.run_tok2

set_option maxHeartbeats 6400000 in
theorem and_c (g n : Nat) (l : List Qr.Tok) (hl : l.length ≤ 400000) (hSub : ∀ (m : Nat) (r : List Qr.Tok) (w : World), m ≤ n → 8 * r.length + 5 ≤ m → Qr.PS g l r w → Calls Tryz.prog 74 #[.pointer (some ⟨g, 0, none⟩)] w (Qr.Res g l (Qr.pNot true m r) w))
    (r : List Qr.Tok) (w : World) (hn : 8 * r.length + 6 ≤ n + 1) (hP : Qr.PS g l r w) :
    Calls Tryz.prog 50 #[.pointer (some ⟨g, 0, none⟩)] w (Qr.Res g l (Qr.pAnd true (n + 1) r) w) := by
  obtain ⟨i0, hi0, hz0, hz1, hz2⟩ := info_parts info_qy
  have HI := Lib.hid hi0; clear hi0
  have hgl := hP.lt
  have hrl := hP.suf.length_le
  have hmx : maxLen = 9223372036854775807 := rfl
  have hP0 := hP.below (Tx.newb w (.cells Qr.zeroQ 25))
  have h1 := fun w h => hSub n r w (Nat.le_refl _) (by omega) h
  have he := (Qr.eats_all true n).2.2.2.2.1 r
  have hb0 := (Qr.nodes_all true n).2.2.2.2.1 r
  have e0 : Qr.pAnd true (n + 1) r = match Qr.pNot true n r with
      | none => none
      | some (q, r') => Qr.lAnd true n [q] r' := by rw [Qr.pAnd]; rfl
  cases ho : Qr.pNot true n r with
  | none =>
    rw [ho] at h1 e0
    rw [e0]
    clear he hb0 e0 hP hSub
    go_enter Tryz.func50, Tryz.ntmps50
    go_wp2_with (go_at_call 74; refine (h1 _ hP0).mono ?_; rintro e w1 hh; obtain ⟨rfl, hF1⟩ := hh.bad; have hF1' : Qr.Fr g w w1 := ((Qr.Fr.refl g w).alloc _).trans hF1)
    exact ⟨rfl, rfl, hF1'⟩
  | some p =>
    obtain ⟨q0, r0⟩ := p
    rw [ho] at h1 e0
    have hs0 := he q0 r0 ho
    have hn0 := hb0 q0 r0 ho
    obtain ⟨X, hX⟩ : ∃ X, Qr.lAnd true n [q0] r0 = X := ⟨_, rfl⟩
    rw [e0]
    simp only
    rw [hX]
    have HX := Lib.hid hX
    clear he hb0 e0 hX ho hP
    go_enter Tryz.func50, Tryz.ntmps50
    go_wp2_with (go_at_call 74; refine (h1 _ hP0).mono ?_; rintro e w1 hh; obtain ⟨qo, qf, qa, qb, qsa, qsn, qsc, qka, qkn, qkc, rfl, hq1, hP1, hF1⟩ := hh.get; clear hh; have s1 := hF1.size; simp only [World.size_alloc] at s1 hq1; have kR1 : w1.heap[w.heap.size]? = some (.cells Qr.zeroQ 25 (0, 0)) := (hF1.block w.heap.size (by omega) (by simp)).trans (heap_alloc_new w _); have hF1' : Qr.Fr g w w1 := ((Qr.Fr.refl g w).alloc _).trans hF1)
    go_loopw [3] (fun v wr => ∃ (m : Nat) (acc : List Qr.Qy) (T : List Qr.QT) (r1 : List Qr.Tok), m ≤ n ∧ 8 * r1.length + 6 ≤ m ∧ Hid (Qr.lAnd true m acc r1 = X) ∧ Hid (acc ≠ []) ∧ Qr.nodesL acc + acc.length + 2 * r1.length ≤ 2 * r.length ∧ Qr.HL (w.heap.size + 1) wr v.ownBlock acc T ∧ wr.ownsRow (w.heap.size + 1) 25 6 v T.length (T.flatMap Qr.encQ) ∧ Qr.PS g l r1 wr ∧ wr.heap[w.heap.size]? = some (.cells Qr.zeroQ 25 (0, 0)) ∧ Qr.Fr g w wr) (fun _ w => l.length - Qr.atOf g w)
    case atStart =>
      refine ⟨n, [q0], [⟨qo, qf, qsa, qsn, qsc, qa, qb, qka, qkn, qkc⟩], r0, Nat.le_refl _, by omega, HX, Lib.hid (by simp), by simp only [Qr.nodesL, List.length_cons, List.length_nil]; omega, Qr.HL.one' hq1 (Qr.Kp.below (Tx.newb w1 _)) (Nat.le_refl _) (fun b hb => .inr (by have h9 : w1.heap.size = b := (by simpa [Value.ownBlock] using hb); omega)), World.ownsRow_lit w1 #[.int .i64 qo, .int .i64 qf, .slice qsa qsn qsc, .int .i64 qa, .int .i64 qb, .slice qka qkn qkc] 1 (by omega) (by unfold maxLen; omega) rfl, hP1.below (Tx.newb w1 _), Tx.blk_later kR1 (Tx.newb w1 _), hF1'.alloc _⟩
    case round =>
      obtain ⟨m, acc, T, r1, hm, hmr, hLX, hne, hnd, hHL, hown, hPr, hR, hF⟩ := hrel
      have hTl := hHL.1
      have hrs := hPr.suf.length_le
      obtain ⟨va, vc, rfl, hka⟩ := hHL.ka hown
      have hownb : ∀ b, (Value.slice va acc.length vc).ownBlock = some b → w.heap.size + 1 ≤ b ∧ b < wr.heap.size := fun b hb => hown.lt b hb
      have HOW := Lib.hid hownb; clear hownb
      obtain ⟨k, hk⟩ : ∃ k, m = k + 1 := ⟨m - 1, by omega⟩
      subst hk
      have hws := hF.size
      have hRl := (Array.getElem?_eq_some_iff.1 hR).1
      have hat := hPr.at_
      have HAT := Lib.hid hat; clear hat
      have HRR := Lib.hid hR; clear hR
      obtain ⟨A1, hA1⟩ : ∃ A1, l.length - r1.length = A1 := ⟨_, rfl⟩
      have hw1 := IntWalk.i64_in ((A1 : Int) + 1) ⟨by omega, by omega⟩
      have HA1 := Lib.hid hA1
      by_cases ho : Qr.isOp Qr.andB r1 = true
      · have hte1 := Qr.tail_eats (Qr.isOp_ne ho)
        have hA2 : (A1 : Int) + 1 = ((l.length - r1.tail.length : Nat) : Int) := by
          have h1 := hte1.2
          rw [List.length_tail] at h1 ⊢
          omega
        have HT1 := Lib.hid hte1
        have HA2 := Lib.hid hA2
        have HO := Lib.hid ho
        have hrt := hte1.2
        clear hA2 hte1
        have h1s := fun w h => hSub k r1.tail w (by omega) (by omega) h
        have heS := (Qr.eats_all true k).2.2.2.2.1 r1.tail
        have hnS := (Qr.nodes_all true k).2.2.2.2.1 r1.tail
        cases hsub : Qr.pNot true k r1.tail with
        | none =>
          rw [hsub] at h1s
          have hS := h1s; clear h1s
          have HXN : Hid (X = none) := Lib.hid (by rw [← hLX.out, Qr.lAnd, if_pos ho, hsub])
          clear heS hnS hsub hA1
          go_wp2_with (first
            | (go_at_call 74; refine (hS _ (hP3.adv HT1.out.1 HA2.out)).mono ?_; rintro e w5 hh; obtain ⟨rfl, hF5⟩ := hh.bad; have hF5' : Qr.Fr g w w5 := hF.trans ((hF3.set rfl _).trans hF5))
            | (go_at_call 51; refine (is_c g l r1 Qr.andB _ hP2).mono ?_; rintro e w3 ⟨rfl, hb3⟩; rw [HO.out]; have s3 := hb3.size; have hP3 := hP2.below hb3; have hF3 : Qr.Fr g wr w3 := hF2.trans (.of_below hb3); obtain ⟨pta, ptc, pc0, pc1, pfz⟩ := hP3.cells; rw [HA1.out] at pc1)
            | (go_at_call 51; refine (is_c g l r1 Qr.andB _ hPr).mono ?_; rintro e w2 ⟨rfl, hb2⟩; rw [HO.out]; have s2 := hb2.size; have hP2 := hPr.below hb2; have hF2 : Qr.Fr g wr w2 := .of_below hb2))
          refine ⟨rfl, ?_⟩
          rw [HXN.out]
          exact ⟨rfl, hF5'⟩
        | some p =>
          obtain ⟨q2, r2⟩ := p
          rw [hsub] at h1s
          have hS := h1s; clear h1s
          have hes := heS q2 r2 hsub
          have hns := hnS q2 r2 hsub
          have hrl2 := hes.1.length_le
          have HXX : Hid (Qr.lAnd true k (acc ++ [q2]) r2 = X) := Lib.hid (by rw [← hLX.out, Qr.lAnd, if_pos ho, hsub])
          clear heS hnS hsub hA1
          go_wp2_with (first
            | (at_builtin; go_must (refine wpList_append_sl rfl _ _ 23 rfl (w.heap.size + 1) 25 i0 _ 6 80 Tryz.underlying23 HI.out hz0 hz1 hz2 rfl (by decide) _ T.length _ rfl (hown5.alloc _) (some ⟨_, 0, none⟩) 1 1 [.int .i64 qo, .int .i64 qf, .slice qsa qsn qsc, .int .i64 qa, .int .i64 qb, .slice qka qkn qkc] rfl rfl (fun h9 => by cases h9) (fun ad had => by cases had; exact Br.cells_new_at _ _ (by first | rfl | simp) _ _) (by simp [Value.oneCell']) (by unfold maxLen; omega) (by omega) (by simp; omega) ?_); intro v' w7 hown7 hg7 hnil7)
            | (go_at_call 74; refine (hS _ (hP3.adv HT1.out.1 HA2.out)).mono ?_; rintro e w5 hh; obtain ⟨qo, qf, qa, qb, qsa, qsn, qsc, qka, qkn, qkc, rfl, hq5, hP5, hF5⟩ := hh.get; clear hh; have s5 := hF5.size; have s5' : w3.heap.size ≤ w5.heap.size := (by simpa [World.setCell] using s5); have hF35 : Qr.Fr g wr w5 := (hF3.set rfl _).trans hF5; have hown5 := hF35.own hown (show g < w.heap.size + 1 by omega); have hBq : Hid ((w3.setCell ⟨g, 1, none⟩ (.int .i64 ((A1 : Int) + 1))).heap.size = w3.heap.size) := Lib.hid (by simp [World.setCell]))
            | (go_at_call 51; refine (is_c g l r1 Qr.andB _ hP2).mono ?_; rintro e w3 ⟨rfl, hb3⟩; rw [HO.out]; have s3 := hb3.size; have hP3 := hP2.below hb3; have hF3 : Qr.Fr g wr w3 := hF2.trans (.of_below hb3); obtain ⟨pta, ptc, pc0, pc1, pfz⟩ := hP3.cells; rw [HA1.out] at pc1)
            | (go_at_call 51; refine (is_c g l r1 Qr.andB _ hPr).mono ?_; rintro e w2 ⟨rfl, hb2⟩; rw [HO.out]; have s2 := hb2.size; have hP2 := hPr.below hb2; have hF2 : Qr.Fr g wr w2 := .of_below hb2))
          have hHL5 := hHL.fr hF35 (show g < w.heap.size + 1 by omega)
          have hHL6 := hHL5.fr ((Qr.Fr.refl g w5).alloc (.cells #[.int .i64 qo, .int .i64 qf, .slice qsa qsn qsc, .int .i64 qa, .int .i64 qb, .slice qka qkn qkc] 25)) (show g < w.heap.size + 1 by omega)
          have hone : Qr.HL (w.heap.size + 1) (w5.alloc (.cells #[.int .i64 qo, .int .i64 qf, .slice qsa qsn qsc, .int .i64 qa, .int .i64 qb, .slice qka qkn qkc] 25)) (Value.slice va acc.length vc).ownBlock [q2] [⟨qo, qf, qsa, qsn, qsc, qa, qb, qka, qkn, qkc⟩] := Qr.HL.one' hq5 (Qr.Kp.below (Tx.newb w5 _)) (by have := hBq.out; omega) (fun b hb => .inl (by have := HOW.out b hb; have := hBq.out; omega))
          have hgb : Below (g + 1) w5 w7 := ((Below.refl (g + 1) w5).alloc (by omega) _).grown hg7 (by simp; omega) (fun j hj => by have := HOW.out j hj; omega)
          have hP7 := hP5.low hgb
          have hR5 := (hF35.block w.heap.size (by omega) hRl).trans HRR.out
          have hR7 := (hg7.block w.heap.size (by simp; omega) (fun e => by have := HOW.out _ e.symm; omega)).trans (Tx.blk_later hR5 (Tx.newb w5 _))
          have hF7 : Qr.Fr g w w7 := ((hF.trans hF35).alloc _).grown hg7 (fun j hj => by have := HOW.out j hj; omega)
          have hat7 := hP7.at_
          go_roundw
          case rel => exact ⟨k, acc ++ [q2], T ++ [⟨qo, qf, qsa, qsn, qsc, qa, qb, qka, qkn, qkc⟩], r2, by omega, by omega, HXX, Lib.hid (by simp), by rw [Qr.nodesL_app, List.length_append]; simp only [Qr.nodesL, List.length_cons, List.length_nil]; omega, (hHL6.app hone).grown hg7 hnil7, by rw [List.length_append, List.flatMap_append]; exact hown7, hP7, hR7, hF7⟩
          case measure => rw [hat7, HAT.out]; omega
      · have ho' : Qr.isOp Qr.andB r1 = false := by simpa using ho
        have HO := Lib.hid ho'
        by_cases hg : Qr.begins r1 = true
        · have HG := Lib.hid hg
          have h1s := fun w h => hSub k r1 w (by omega) (by omega) h
          have heS := (Qr.eats_all true k).2.2.2.2.1 r1
          have hnS := (Qr.nodes_all true k).2.2.2.2.1 r1
          cases hsub : Qr.pNot true k r1 with
          | none =>
            rw [hsub] at h1s
            have hS := h1s; clear h1s
            have HXN : Hid (X = none) := Lib.hid (by rw [← hLX.out, Qr.lAnd, if_neg ho, if_pos hg, hsub])
            clear heS hnS hsub hA1
            go_wp2_with (first
              | (go_at_call 74; refine (hS _ (hP3)).mono ?_; rintro e w5 hh; obtain ⟨rfl, hF5⟩ := hh.bad; have hF5' : Qr.Fr g w w5 := hF.trans (hF3.trans hF5))
              | (go_at_call 51; refine (is_c g l r1 Qr.andB _ hP4).mono ?_; rintro e w3 ⟨rfl, hb3⟩; rw [HO.out]; have s3 := hb3.size; have hP3 := hP4.below hb3; have hF3 : Qr.Fr g wr w3 := hF4.trans (.of_below hb3))
              | (go_at_call 75; refine (begins_c g l r1 _ hP2).mono ?_; rintro e w4 ⟨rfl, hb4⟩; rw [HG.out]; have s4 := hb4.size; have hP4 := hP2.below hb4; have hF4 : Qr.Fr g wr w4 := hF2.trans (.of_below hb4))
              | (go_at_call 51; refine (is_c g l r1 Qr.andB _ hPr).mono ?_; rintro e w2 ⟨rfl, hb2⟩; rw [HO.out]; have s2 := hb2.size; have hP2 := hPr.below hb2; have hF2 : Qr.Fr g wr w2 := .of_below hb2))
            refine ⟨rfl, ?_⟩
            rw [HXN.out]
            exact ⟨rfl, hF5'⟩
          | some p =>
            obtain ⟨q2, r2⟩ := p
            rw [hsub] at h1s
            have hS := h1s; clear h1s
            have hes := heS q2 r2 hsub
            have hns := hnS q2 r2 hsub
            have hrl2 := hes.1.length_le
            have HXX : Hid (Qr.lAnd true k (acc ++ [q2]) r2 = X) := Lib.hid (by rw [← hLX.out, Qr.lAnd, if_neg ho, if_pos hg, hsub])
            clear heS hnS hsub hA1
            go_wp2_with (first
              | (at_builtin; go_must (refine wpList_append_sl rfl _ _ 23 rfl (w.heap.size + 1) 25 i0 _ 6 80 Tryz.underlying23 HI.out hz0 hz1 hz2 rfl (by decide) _ T.length _ rfl (hown5.alloc _) (some ⟨_, 0, none⟩) 1 1 [.int .i64 qo, .int .i64 qf, .slice qsa qsn qsc, .int .i64 qa, .int .i64 qb, .slice qka qkn qkc] rfl rfl (fun h9 => by cases h9) (fun ad had => by cases had; exact Br.cells_new_at _ _ (by first | rfl | simp) _ _) (by simp [Value.oneCell']) (by unfold maxLen; omega) (by omega) (by simp; omega) ?_); intro v' w7 hown7 hg7 hnil7)
              | (go_at_call 74; refine (hS _ (hP3)).mono ?_; rintro e w5 hh; obtain ⟨qo, qf, qa, qb, qsa, qsn, qsc, qka, qkn, qkc, rfl, hq5, hP5, hF5⟩ := hh.get; clear hh; have s5 := hF5.size; have s5' : w3.heap.size ≤ w5.heap.size := s5; have hF35 : Qr.Fr g wr w5 := hF3.trans hF5; have hown5 := hF35.own hown (show g < w.heap.size + 1 by omega); have hBq : Hid (w3.heap.size = w3.heap.size) := Lib.hid rfl)
              | (go_at_call 51; refine (is_c g l r1 Qr.andB _ hP4).mono ?_; rintro e w3 ⟨rfl, hb3⟩; rw [HO.out]; have s3 := hb3.size; have hP3 := hP4.below hb3; have hF3 : Qr.Fr g wr w3 := hF4.trans (.of_below hb3))
              | (go_at_call 75; refine (begins_c g l r1 _ hP2).mono ?_; rintro e w4 ⟨rfl, hb4⟩; rw [HG.out]; have s4 := hb4.size; have hP4 := hP2.below hb4; have hF4 : Qr.Fr g wr w4 := hF2.trans (.of_below hb4))
              | (go_at_call 51; refine (is_c g l r1 Qr.andB _ hPr).mono ?_; rintro e w2 ⟨rfl, hb2⟩; rw [HO.out]; have s2 := hb2.size; have hP2 := hPr.below hb2; have hF2 : Qr.Fr g wr w2 := .of_below hb2))
            have hHL5 := hHL.fr hF35 (show g < w.heap.size + 1 by omega)
            have hHL6 := hHL5.fr ((Qr.Fr.refl g w5).alloc (.cells #[.int .i64 qo, .int .i64 qf, .slice qsa qsn qsc, .int .i64 qa, .int .i64 qb, .slice qka qkn qkc] 25)) (show g < w.heap.size + 1 by omega)
            have hone : Qr.HL (w.heap.size + 1) (w5.alloc (.cells #[.int .i64 qo, .int .i64 qf, .slice qsa qsn qsc, .int .i64 qa, .int .i64 qb, .slice qka qkn qkc] 25)) (Value.slice va acc.length vc).ownBlock [q2] [⟨qo, qf, qsa, qsn, qsc, qa, qb, qka, qkn, qkc⟩] := Qr.HL.one' hq5 (Qr.Kp.below (Tx.newb w5 _)) (by have := hBq.out; omega) (fun b hb => .inl (by have := HOW.out b hb; have := hBq.out; omega))
            have hgb : Below (g + 1) w5 w7 := ((Below.refl (g + 1) w5).alloc (by omega) _).grown hg7 (by simp; omega) (fun j hj => by have := HOW.out j hj; omega)
            have hP7 := hP5.low hgb
            have hR5 := (hF35.block w.heap.size (by omega) hRl).trans HRR.out
            have hR7 := (hg7.block w.heap.size (by simp; omega) (fun e => by have := HOW.out _ e.symm; omega)).trans (Tx.blk_later hR5 (Tx.newb w5 _))
            have hF7 : Qr.Fr g w w7 := ((hF.trans hF35).alloc _).grown hg7 (fun j hj => by have := HOW.out j hj; omega)
            have hat7 := hP7.at_
            go_roundw
            case rel => exact ⟨k, acc ++ [q2], T ++ [⟨qo, qf, qsa, qsn, qsc, qa, qb, qka, qkn, qkc⟩], r2, by omega, by omega, HXX, Lib.hid (by simp), by rw [Qr.nodesL_app, List.length_append]; simp only [Qr.nodesL, List.length_cons, List.length_nil]; omega, (hHL6.app hone).grown hg7 hnil7, by rw [List.length_append, List.flatMap_append]; exact hown7, hP7, hR7, hF7⟩
            case measure => rw [hat7, HAT.out]; omega
        · have hg' : Qr.begins r1 = false := by simpa using hg
          have HG := Lib.hid hg'
          have HXN : Hid (X = some (Qr.joined 5 acc, r1)) := Lib.hid (by rw [← hLX.out, Qr.lAnd, if_neg ho, if_neg hg])
          clear ho ho' hg hg' hA1
          go_wp2_with (first
            | (go_at_call 52; refine (joined_c (w.heap.size + 1) 5 acc va vc _ (hka.fr hF4 (show g < w.heap.size + 1 by omega)) (by omega) (by omega)).mono ?_; rintro e w9 ⟨⟨qo, qf, qsa, qsn, qsc, qa, qb, qka, qkn, qkc⟩, rfl, hq9, hb9⟩; simp only [Qr.encQ] at hq9; have s9 := hb9.size; have hF9 : Qr.Fr g wr w9 := hF4.trans (.of_below hb9); have hP9 := hP4.below hb9; have kR9 := (hF9.block w.heap.size (by omega) hRl).trans HRR.out; have z0 : w9.cell? ⟨w.heap.size, 0, none⟩ = some (.int .i64 0) := (Tx.blk kR9).1 0; have z1 : w9.cell? ⟨w.heap.size, 1, none⟩ = some (.int .i64 0) := (Tx.blk kR9).1 1; have z2 : w9.cell? ⟨w.heap.size, 2, none⟩ = some (.slice none 0 0) := (Tx.blk kR9).1 2; have z3 : w9.cell? ⟨w.heap.size, 3, none⟩ = some (.int .i64 0) := (Tx.blk kR9).1 3; have z4 : w9.cell? ⟨w.heap.size, 4, none⟩ = some (.int .i64 0) := (Tx.blk kR9).1 4; have z5 : w9.cell? ⟨w.heap.size, 5, none⟩ = some (.slice none 0 0) := (Tx.blk kR9).1 5; have fr9 : ∀ i, w9.frozen? ⟨w.heap.size, i, none⟩ = false := (Tx.blk kR9).2.1; obtain ⟨ta9, tc9, kg9, _, _⟩ := hP9.blk; have KP9 := Lib.hid kg9; clear kg9 kR9)
            | (go_at_call 75; refine (begins_c g l r1 _ hP2).mono ?_; rintro e w4 ⟨rfl, hb4⟩; rw [HG.out]; have s4 := hb4.size; have hP4 := hP2.below hb4; have hF4 : Qr.Fr g wr w4 := hF2.trans (.of_below hb4))
            | (go_at_call 51; refine (is_c g l r1 Qr.andB _ hPr).mono ?_; rintro e w2 ⟨rfl, hb2⟩; rw [HO.out]; have s2 := hb2.size; have hP2 := hPr.below hb2; have hF2 : Qr.Fr g wr w2 := .of_below hb2))
          refine bodyPost_ret (v := .agg #[.int .i64 qo, .int .i64 qf, .slice qsa qsn qsc, .int .i64 qa, .int .i64 qb, .slice qka qkn qkc]) (by simp [results, Tryz.results50, go_sem, z0, z1, z2, z3, z4, z5]) rfl ?_
          rw [HXN.out]
          exact ⟨⟨qo, qf, qsa, qsn, qsc, qa, qb, qka, qkn, qkc⟩, rfl, (hq9.kp (Qr.Kp.put6 (Qr.Kp.refl _ _) (by omega) _ _ _ _ _ _)).mono (by omega), Qr.PS.of' hP9 KP9.out (Tx.put6 (Below.refl _ _) (by omega) _ _ _ _ _ _) (List.suffix_refl _) (Qr.far6 KP9.out (show g ≠ w.heap.size by omega) _ _ _ _ _ _) rfl, Qr.Fr.put6 (hF.trans hF9) (Nat.le_refl _) _ _ _ _ _ _⟩
end Go.Proofs.YtkahplbjbidemaaGreatDoor

/- Parts with OR between them are read: what the program's call does. -/
namespace Go.Proofs.YtkahplbjbidemaaGreatDoor
open Go.RowKit
set_option maxRecDepth 100000
attribute [local go_sem] Qr.run_tok0 Qr.run_tok1 Qr.run_tok2

set_option maxHeartbeats 6400000 in
theorem or_c (g n : Nat) (l : List Qr.Tok) (hl : l.length ≤ 400000) (hSub : ∀ (m : Nat) (r : List Qr.Tok) (w : World), m ≤ n → 8 * r.length + 6 ≤ m → Qr.PS g l r w → Calls Tryz.prog 50 #[.pointer (some ⟨g, 0, none⟩)] w (Qr.Res g l (Qr.pAnd true m r) w))
    (r : List Qr.Tok) (w : World) (hn : 8 * r.length + 7 ≤ n + 1) (hP : Qr.PS g l r w) :
    Calls Tryz.prog 30 #[.pointer (some ⟨g, 0, none⟩)] w (Qr.Res g l (Qr.pOr true (n + 1) r) w) := by
  obtain ⟨i0, hi0, hz0, hz1, hz2⟩ := info_parts info_qy
  have HI := Lib.hid hi0; clear hi0
  have hgl := hP.lt
  have hrl := hP.suf.length_le
  have hmx : maxLen = 9223372036854775807 := rfl
  have hP0 := hP.below (Tx.newb w (.cells Qr.zeroQ 25))
  have h1 := fun w h => hSub n r w (Nat.le_refl _) (by omega) h
  have he := (Qr.eats_all true n).2.2.1 r
  have hb0 := (Qr.nodes_all true n).2.2.1 r
  have e0 : Qr.pOr true (n + 1) r = match Qr.pAnd true n r with
      | none => none
      | some (q, r') => Qr.lOr true n [q] r' := by rw [Qr.pOr]; rfl
  cases ho : Qr.pAnd true n r with
  | none =>
    rw [ho] at h1 e0
    rw [e0]
    clear he hb0 e0 hP hSub
    go_enter Tryz.func30, Tryz.ntmps30
    go_wp2_with (go_at_call 50; refine (h1 _ hP0).mono ?_; rintro e w1 hh; obtain ⟨rfl, hF1⟩ := hh.bad; have hF1' : Qr.Fr g w w1 := ((Qr.Fr.refl g w).alloc _).trans hF1)
    exact ⟨rfl, rfl, hF1'⟩
  | some p =>
    obtain ⟨q0, r0⟩ := p
    rw [ho] at h1 e0
    have hs0 := he q0 r0 ho
    have hn0 := hb0 q0 r0 ho
    obtain ⟨X, hX⟩ : ∃ X, Qr.lOr true n [q0] r0 = X := ⟨_, rfl⟩
    rw [e0]
    simp only
    rw [hX]
    have HX := Lib.hid hX
    clear he hb0 e0 hX ho hP
    go_enter Tryz.func30, Tryz.ntmps30
    go_wp2_with (go_at_call 50; refine (h1 _ hP0).mono ?_; rintro e w1 hh; obtain ⟨qo, qf, qa, qb, qsa, qsn, qsc, qka, qkn, qkc, rfl, hq1, hP1, hF1⟩ := hh.get; clear hh; have s1 := hF1.size; simp only [World.size_alloc] at s1 hq1; have kR1 : w1.heap[w.heap.size]? = some (.cells Qr.zeroQ 25 (0, 0)) := (hF1.block w.heap.size (by omega) (by simp)).trans (heap_alloc_new w _); have hF1' : Qr.Fr g w w1 := ((Qr.Fr.refl g w).alloc _).trans hF1)
    go_loopw [3] (fun v wr => ∃ (m : Nat) (acc : List Qr.Qy) (T : List Qr.QT) (r1 : List Qr.Tok), m ≤ n ∧ 8 * r1.length + 7 ≤ m ∧ Hid (Qr.lOr true m acc r1 = X) ∧ Hid (acc ≠ []) ∧ Qr.nodesL acc + acc.length + 2 * r1.length ≤ 2 * r.length ∧ Qr.HL (w.heap.size + 1) wr v.ownBlock acc T ∧ wr.ownsRow (w.heap.size + 1) 25 6 v T.length (T.flatMap Qr.encQ) ∧ Qr.PS g l r1 wr ∧ wr.heap[w.heap.size]? = some (.cells Qr.zeroQ 25 (0, 0)) ∧ Qr.Fr g w wr) (fun _ w => l.length - Qr.atOf g w)
    case atStart =>
      refine ⟨n, [q0], [⟨qo, qf, qsa, qsn, qsc, qa, qb, qka, qkn, qkc⟩], r0, Nat.le_refl _, by omega, HX, Lib.hid (by simp), by simp only [Qr.nodesL, List.length_cons, List.length_nil]; omega, Qr.HL.one' hq1 (Qr.Kp.below (Tx.newb w1 _)) (Nat.le_refl _) (fun b hb => .inr (by have h9 : w1.heap.size = b := (by simpa [Value.ownBlock] using hb); omega)), World.ownsRow_lit w1 #[.int .i64 qo, .int .i64 qf, .slice qsa qsn qsc, .int .i64 qa, .int .i64 qb, .slice qka qkn qkc] 1 (by omega) (by unfold maxLen; omega) rfl, hP1.below (Tx.newb w1 _), Tx.blk_later kR1 (Tx.newb w1 _), hF1'.alloc _⟩
    case round =>
      obtain ⟨m, acc, T, r1, hm, hmr, hLX, hne, hnd, hHL, hown, hPr, hR, hF⟩ := hrel
      have hTl := hHL.1
      have hrs := hPr.suf.length_le
      obtain ⟨va, vc, rfl, hka⟩ := hHL.ka hown
      have hownb : ∀ b, (Value.slice va acc.length vc).ownBlock = some b → w.heap.size + 1 ≤ b ∧ b < wr.heap.size := fun b hb => hown.lt b hb
      have HOW := Lib.hid hownb; clear hownb
      obtain ⟨k, hk⟩ : ∃ k, m = k + 1 := ⟨m - 1, by omega⟩
      subst hk
      have hws := hF.size
      have hRl := (Array.getElem?_eq_some_iff.1 hR).1
      have hat := hPr.at_
      have HAT := Lib.hid hat; clear hat
      have HRR := Lib.hid hR; clear hR
      obtain ⟨A1, hA1⟩ : ∃ A1, l.length - r1.length = A1 := ⟨_, rfl⟩
      have hw1 := IntWalk.i64_in ((A1 : Int) + 1) ⟨by omega, by omega⟩
      have HA1 := Lib.hid hA1
      by_cases ho : Qr.isOp Qr.orB r1 = true
      · have hte1 := Qr.tail_eats (Qr.isOp_ne ho)
        have hA2 : (A1 : Int) + 1 = ((l.length - r1.tail.length : Nat) : Int) := by
          have h1 := hte1.2
          rw [List.length_tail] at h1 ⊢
          omega
        have HT1 := Lib.hid hte1
        have HA2 := Lib.hid hA2
        have HO := Lib.hid ho
        have hrt := hte1.2
        clear hA2 hte1
        have h1s := fun w h => hSub k r1.tail w (by omega) (by omega) h
        have heS := (Qr.eats_all true k).2.2.1 r1.tail
        have hnS := (Qr.nodes_all true k).2.2.1 r1.tail
        cases hsub : Qr.pAnd true k r1.tail with
        | none =>
          rw [hsub] at h1s
          have hS := h1s; clear h1s
          have HXN : Hid (X = none) := Lib.hid (by rw [← hLX.out, Qr.lOr, if_pos ho, hsub])
          clear heS hnS hsub hA1
          go_wp2_with (first
            | (go_at_call 50; refine (hS _ (hP2.adv HT1.out.1 HA2.out)).mono ?_; rintro e w5 hh; obtain ⟨rfl, hF5⟩ := hh.bad; have hF5' : Qr.Fr g w w5 := hF.trans ((hF2.set rfl _).trans hF5))
            | (go_at_call 51; refine (is_c g l r1 Qr.orB _ hPr).mono ?_; rintro e w2 ⟨rfl, hb2⟩; rw [HO.out]; have s2 := hb2.size; have hP2 := hPr.below hb2; have hF2 : Qr.Fr g wr w2 := .of_below hb2; obtain ⟨pta, ptc, pc0, pc1, pfz⟩ := hP2.cells; rw [HA1.out] at pc1))
          refine ⟨rfl, ?_⟩
          rw [HXN.out]
          exact ⟨rfl, hF5'⟩
        | some p =>
          obtain ⟨q2, r2⟩ := p
          rw [hsub] at h1s
          have hS := h1s; clear h1s
          have hes := heS q2 r2 hsub
          have hns := hnS q2 r2 hsub
          have hrl2 := hes.1.length_le
          have HXX : Hid (Qr.lOr true k (acc ++ [q2]) r2 = X) := Lib.hid (by rw [← hLX.out, Qr.lOr, if_pos ho, hsub])
          clear heS hnS hsub hA1
          go_wp2_with (first
            | (at_builtin; go_must (refine wpList_append_sl rfl _ _ 23 rfl (w.heap.size + 1) 25 i0 _ 6 80 Tryz.underlying23 HI.out hz0 hz1 hz2 rfl (by decide) _ T.length _ rfl (hown5.alloc _) (some ⟨_, 0, none⟩) 1 1 [.int .i64 qo, .int .i64 qf, .slice qsa qsn qsc, .int .i64 qa, .int .i64 qb, .slice qka qkn qkc] rfl rfl (fun h9 => by cases h9) (fun ad had => by cases had; exact Br.cells_new_at _ _ (by first | rfl | simp) _ _) (by simp [Value.oneCell']) (by unfold maxLen; omega) (by omega) (by simp; omega) ?_); intro v' w7 hown7 hg7 hnil7)
            | (go_at_call 50; refine (hS _ (hP2.adv HT1.out.1 HA2.out)).mono ?_; rintro e w5 hh; obtain ⟨qo, qf, qa, qb, qsa, qsn, qsc, qka, qkn, qkc, rfl, hq5, hP5, hF5⟩ := hh.get; clear hh; have s5 := hF5.size; have s5' : w2.heap.size ≤ w5.heap.size := (by simpa [World.setCell] using s5); have hF35 : Qr.Fr g wr w5 := (hF2.set rfl _).trans hF5; have hown5 := hF35.own hown (show g < w.heap.size + 1 by omega); have hBq : Hid ((w2.setCell ⟨g, 1, none⟩ (.int .i64 ((A1 : Int) + 1))).heap.size = w2.heap.size) := Lib.hid (by simp [World.setCell]))
            | (go_at_call 51; refine (is_c g l r1 Qr.orB _ hPr).mono ?_; rintro e w2 ⟨rfl, hb2⟩; rw [HO.out]; have s2 := hb2.size; have hP2 := hPr.below hb2; have hF2 : Qr.Fr g wr w2 := .of_below hb2; obtain ⟨pta, ptc, pc0, pc1, pfz⟩ := hP2.cells; rw [HA1.out] at pc1))
          have hHL5 := hHL.fr hF35 (show g < w.heap.size + 1 by omega)
          have hHL6 := hHL5.fr ((Qr.Fr.refl g w5).alloc (.cells #[.int .i64 qo, .int .i64 qf, .slice qsa qsn qsc, .int .i64 qa, .int .i64 qb, .slice qka qkn qkc] 25)) (show g < w.heap.size + 1 by omega)
          have hone : Qr.HL (w.heap.size + 1) (w5.alloc (.cells #[.int .i64 qo, .int .i64 qf, .slice qsa qsn qsc, .int .i64 qa, .int .i64 qb, .slice qka qkn qkc] 25)) (Value.slice va acc.length vc).ownBlock [q2] [⟨qo, qf, qsa, qsn, qsc, qa, qb, qka, qkn, qkc⟩] := Qr.HL.one' hq5 (Qr.Kp.below (Tx.newb w5 _)) (by have := hBq.out; omega) (fun b hb => .inl (by have := HOW.out b hb; have := hBq.out; omega))
          have hgb : Below (g + 1) w5 w7 := ((Below.refl (g + 1) w5).alloc (by omega) _).grown hg7 (by simp; omega) (fun j hj => by have := HOW.out j hj; omega)
          have hP7 := hP5.low hgb
          have hR5 := (hF35.block w.heap.size (by omega) hRl).trans HRR.out
          have hR7 := (hg7.block w.heap.size (by simp; omega) (fun e => by have := HOW.out _ e.symm; omega)).trans (Tx.blk_later hR5 (Tx.newb w5 _))
          have hF7 : Qr.Fr g w w7 := ((hF.trans hF35).alloc _).grown hg7 (fun j hj => by have := HOW.out j hj; omega)
          have hat7 := hP7.at_
          go_roundw
          case rel => exact ⟨k, acc ++ [q2], T ++ [⟨qo, qf, qsa, qsn, qsc, qa, qb, qka, qkn, qkc⟩], r2, by omega, by omega, HXX, Lib.hid (by simp), by rw [Qr.nodesL_app, List.length_append]; simp only [Qr.nodesL, List.length_cons, List.length_nil]; omega, (hHL6.app hone).grown hg7 hnil7, by rw [List.length_append, List.flatMap_append]; exact hown7, hP7, hR7, hF7⟩
          case measure => rw [hat7, HAT.out]; omega
      · have ho' : Qr.isOp Qr.orB r1 = false := by simpa using ho
        have HO := Lib.hid ho'
        have HXN : Hid (X = some (Qr.joined 6 acc, r1)) := Lib.hid (by rw [← hLX.out, Qr.lOr, if_neg ho])
        clear ho ho' hA1
        go_wp2_with (first
          | (go_at_call 52; refine (joined_c (w.heap.size + 1) 6 acc va vc _ (hka.fr hF2 (show g < w.heap.size + 1 by omega)) (by omega) (by omega)).mono ?_; rintro e w9 ⟨⟨qo, qf, qsa, qsn, qsc, qa, qb, qka, qkn, qkc⟩, rfl, hq9, hb9⟩; simp only [Qr.encQ] at hq9; have s9 := hb9.size; have hF9 : Qr.Fr g wr w9 := hF2.trans (.of_below hb9); have hP9 := hP2.below hb9; have kR9 := (hF9.block w.heap.size (by omega) hRl).trans HRR.out; have z0 : w9.cell? ⟨w.heap.size, 0, none⟩ = some (.int .i64 0) := (Tx.blk kR9).1 0; have z1 : w9.cell? ⟨w.heap.size, 1, none⟩ = some (.int .i64 0) := (Tx.blk kR9).1 1; have z2 : w9.cell? ⟨w.heap.size, 2, none⟩ = some (.slice none 0 0) := (Tx.blk kR9).1 2; have z3 : w9.cell? ⟨w.heap.size, 3, none⟩ = some (.int .i64 0) := (Tx.blk kR9).1 3; have z4 : w9.cell? ⟨w.heap.size, 4, none⟩ = some (.int .i64 0) := (Tx.blk kR9).1 4; have z5 : w9.cell? ⟨w.heap.size, 5, none⟩ = some (.slice none 0 0) := (Tx.blk kR9).1 5; have fr9 : ∀ i, w9.frozen? ⟨w.heap.size, i, none⟩ = false := (Tx.blk kR9).2.1; obtain ⟨ta9, tc9, kg9, _, _⟩ := hP9.blk; have KP9 := Lib.hid kg9; clear kg9 kR9)
          | (go_at_call 51; refine (is_c g l r1 Qr.orB _ hPr).mono ?_; rintro e w2 ⟨rfl, hb2⟩; rw [HO.out]; have s2 := hb2.size; have hP2 := hPr.below hb2; have hF2 : Qr.Fr g wr w2 := .of_below hb2))
        refine bodyPost_ret (v := .agg #[.int .i64 qo, .int .i64 qf, .slice qsa qsn qsc, .int .i64 qa, .int .i64 qb, .slice qka qkn qkc]) (by simp [results, Tryz.results30, go_sem, z0, z1, z2, z3, z4, z5]) rfl ?_
        rw [HXN.out]
        exact ⟨⟨qo, qf, qsa, qsn, qsc, qa, qb, qka, qkn, qkc⟩, rfl, (hq9.kp (Qr.Kp.put6 (Qr.Kp.refl _ _) (by omega) _ _ _ _ _ _)).mono (by omega), Qr.PS.of' hP9 KP9.out (Tx.put6 (Below.refl _ _) (by omega) _ _ _ _ _ _) (List.suffix_refl _) (Qr.far6 KP9.out (show g ≠ w.heap.size by omega) _ _ _ _ _ _) rfl, Qr.Fr.put6 (hF.trans hF9) (Nat.le_refl _) _ _ _ _ _ _⟩
end Go.Proofs.YtkahplbjbidemaaGreatDoor

/- All readers together: what the program's parser does. -/
namespace Go.Proofs.YtkahplbjbidemaaGreatDoor
open Go.RowKit
set_option maxRecDepth 100000

theorem readers (g : Nat) (l : List Qr.Tok) (hl : l.length ≤ 400000) : ∀ n : Nat,
    (∀ (m : Nat) (r : List Qr.Tok) (w : World), m ≤ n → 8 * r.length + 7 ≤ m → Qr.PS g l r w → Calls Tryz.prog 30 #[.pointer (some ⟨g, 0, none⟩)] w (Qr.Res g l (Qr.pOr true m r) w)) ∧
    (∀ (m : Nat) (r : List Qr.Tok) (w : World), m ≤ n → 8 * r.length + 6 ≤ m → Qr.PS g l r w → Calls Tryz.prog 50 #[.pointer (some ⟨g, 0, none⟩)] w (Qr.Res g l (Qr.pAnd true m r) w)) ∧
    (∀ (m : Nat) (r : List Qr.Tok) (w : World), m ≤ n → 8 * r.length + 5 ≤ m → Qr.PS g l r w → Calls Tryz.prog 74 #[.pointer (some ⟨g, 0, none⟩)] w (Qr.Res g l (Qr.pNot true m r) w)) ∧
    (∀ (m : Nat) (r : List Qr.Tok) (w : World), m ≤ n → 8 * r.length + 4 ≤ m → Qr.PS g l r w → Calls Tryz.prog 87 #[.pointer (some ⟨g, 0, none⟩)] w (Qr.Res g l (Qr.pPrim true m r) w))
  | 0 => ⟨fun m r w h1 h2 _ => by omega, fun m r w h1 h2 _ => by omega, fun m r w h1 h2 _ => by omega, fun m r w h1 h2 _ => by omega⟩
  | n + 1 => by
    obtain ⟨h1, h2, h3, h4⟩ := readers g l hl n
    refine ⟨fun m r w hm hn hP => ?_, fun m r w hm hn hP => ?_, fun m r w hm hn hP => ?_, fun m r w hm hn hP => ?_⟩
    · by_cases hle : m ≤ n
      · exact h1 m r w hle hn hP
      · obtain rfl : m = n + 1 := by omega
        exact or_c g n l hl h2 r w hn hP
    · by_cases hle : m ≤ n
      · exact h2 m r w hle hn hP
      · obtain rfl : m = n + 1 := by omega
        exact and_c g n l hl h3 r w hn hP
    · by_cases hle : m ≤ n
      · exact h3 m r w hle hn hP
      · obtain rfl : m = n + 1 := by omega
        exact not_c g n l (fun r w h hP => h4 n r w (Nat.le_refl _) h hP) r w hn hP
    · by_cases hle : m ≤ n
      · exact h4 m r w hle hn hP
      · obtain rfl : m = n + 1 := by omega
        exact prim_c g n l (fun r w h hP => h1 n r w (Nat.le_refl _) h hP) r w hn hP
end Go.Proofs.YtkahplbjbidemaaGreatDoor
