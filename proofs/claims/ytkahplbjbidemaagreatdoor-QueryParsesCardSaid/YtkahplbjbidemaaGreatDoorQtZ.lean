/- A primary is read: what the program's call does, each way. -/
import Derived.Test.YtkahplbjbidemaaGreatDoorQtY
namespace Go.Proofs.YtkahplbjbidemaaGreatDoor
open Go.RowKit
set_option maxRecDepth 100000
attribute [local go_sem] Qr.run_tok0 Qr.run_tok1 Qr.run_tok2

set_option maxHeartbeats 800000 in
theorem prim_bad (g : Nat) (l r : List Qr.Tok) (w : World) (hP : Qr.PS g l r w) (hb : Qr.begins r = false) :
    Calls Tryz.prog 87 #[.pointer (some ⟨g, 0, none⟩)] w fun e w' => e = .panicked [{ v := Qr.wrongP, recovered := false }] ∧ Qr.Fr g w w' := by
  have hsl := hP.suf.length_le
  have hll := hP.len
  have hgl := hP.lt
  obtain ⟨ta, tc, kg, _, _⟩ := hP.blk
  obtain ⟨A, hA⟩ : ∃ A, l.length - r.length = A := ⟨_, rfl⟩
  rw [hA] at kg
  have hP0 := hP.below (Tx.newb w (.cells Qr.zeroQ 25))
  have KG := Lib.hid kg; clear kg
  have HPP := Lib.hid hP; clear hP
  have HB := Lib.hid hb; clear hb
  go_enter Tryz.func87, Tryz.ntmps87
  go_wp2_with (first
    | (go_at_call 75; refine (begins_c g l r _ hP0).mono ?_; rintro e w1 ⟨rfl, hb1⟩; rw [HB.out]; have hP1 := hP0.below hb1; have s1 : w.heap.size < w1.heap.size := (by have := hb1.size; simp at this; omega); have KG1 := Lib.hid (Tx.blk_later (Tx.blk_later KG.out (Tx.newb w _)) hb1); have KR1 : Hid (w1.heap[w.heap.size]? = some (.cells Qr.zeroQ 25 (0, 0))) := Lib.hid (Tx.blk_later (heap_alloc_new w _) hb1); have hF1 : Qr.Fr g w w1 := ((Qr.Fr.refl g w).alloc _).trans (.of_below hb1)))
  exact ⟨rfl, rfl, hF1⟩

set_option maxHeartbeats 800000 in
theorem prim_par_none (g : Nat) (l r : List Qr.Tok) (w : World) (hP : Qr.PS g l r w) (kk : UInt8) (tt : List UInt8) (tg : Bool) (K : Int) (ht : Qr.lk r = ⟨kk, tt, tg⟩) (hK : (kk.toNat : Int) = K) (hb : Qr.begins r = true) (h40 : K = 40) (x : Qr.PR) (hOr : ∀ w, Qr.PS g l r.tail w → Calls Tryz.prog 30 #[.pointer (some ⟨g, 0, none⟩)] w (Qr.Res g l x w)) (ho : x = none) :
    Calls Tryz.prog 87 #[.pointer (some ⟨g, 0, none⟩)] w fun e w' => e = .panicked [{ v := Qr.wrongP, recovered := false }] ∧ Qr.Fr g w w' := by
  have hsl := hP.suf.length_le
  have hll := hP.len
  have hgl := hP.lt
  obtain ⟨ta, tc, kg, _, _⟩ := hP.blk
  obtain ⟨A, hA⟩ : ∃ A, l.length - r.length = A := ⟨_, rfl⟩
  rw [hA] at kg
  have hP0 := hP.below (Tx.newb w (.cells Qr.zeroQ 25))
  have KG := Lib.hid kg; clear kg
  have HPP := Lib.hid hP; clear hP
  have hk1 := Qr.begins_ne hb
  have hte := Qr.tail_eats hk1
  have L0 := fun w h => look0 (K := K) (w := w) (g := g) (l := l) ht hK h
  have HB := Lib.hid hb; clear hb
  have HTE := Lib.hid hte; clear hk1
  have hA1 : (A : Int) + 1 = ((l.length - r.tail.length : Nat) : Int) := by have := hte.2; rw [List.length_tail] at this ⊢; omega
  have hw1 := IntWalk.i64_in ((A : Int) + 1) ⟨by omega, by omega⟩
  have HA1 := Lib.hid hA1; clear hA1 hte ht hK
  subst h40
  have HO := Lib.hid ho; clear ho
  go_enter Tryz.func87, Tryz.ntmps87
  go_wp2_with (first
    | (go_at_call 30; refine (hOr _ hPS3).mono ?_; rintro e w4 h4; rw [HO.out] at h4; obtain ⟨rfl, hF4⟩ := h4.bad; have hF4' := hF3.trans hF4)
    | (go_at_call 76; refine (L0 _ hP1).mono ?_; rintro e w2 ⟨rfl, hb2⟩; have s2 := hb2.size; have kT2 : (w2.alloc (.cells #[.int .u8 40, .string ⟨tt.toArray⟩, .bool tg] 77)).heap[w2.heap.size]? = some (.cells #[.int .u8 40, .string ⟨tt.toArray⟩, .bool tg] 77 (0, 0)) := heap_alloc_new _ _; have kg2 : (w2.alloc (.cells #[.int .u8 40, .string ⟨tt.toArray⟩, .bool tg] 77)).heap[g]? = some (.cells #[.slice ta l.length tc, .int .i64 (A : Int)] 44 (0, 0)) := Tx.blk_later (Tx.blk_later KG1.out hb2) (Tx.newb w2 _); have kR2 : (w2.alloc (.cells #[.int .u8 40, .string ⟨tt.toArray⟩, .bool tg] 77)).heap[w.heap.size]? = some (.cells Qr.zeroQ 25 (0, 0)) := Tx.blk_later (Tx.blk_later KR1.out hb2) (Tx.newb w2 _); have hF2 : Qr.Fr g w (w2.alloc (.cells #[.int .u8 40, .string ⟨tt.toArray⟩, .bool tg] 77)) := (hF1.trans (.of_below hb2)).alloc _; have hP2 : Qr.PS g l r (w2.alloc (.cells #[.int .u8 40, .string ⟨tt.toArray⟩, .bool tg] 77)) := (hP1.below hb2).below (Tx.newb w2 _); have eg : (w2.alloc (.cells #[.int .u8 40, .string ⟨tt.toArray⟩, .bool tg] 77)).cell? ⟨g, 1, none⟩ = some (.int .i64 (A : Int)) := (Tx.blk kg2).1 1; have fg : ∀ i, (w2.alloc (.cells #[.int .u8 40, .string ⟨tt.toArray⟩, .bool tg] 77)).frozen? ⟨g, i, none⟩ = false := (Tx.blk kg2).2.1; have KT2 := Lib.hid kT2; have KG2 := Lib.hid kg2; have KR2 := Lib.hid kR2; clear kT2 kg2 kR2; have kg3 : ((w2.alloc (.cells #[.int .u8 40, .string ⟨tt.toArray⟩, .bool tg] 77)).setCell ⟨g, 1, none⟩ (.int .i64 ((A : Int) + 1))).heap[g]? = some (.cells #[.slice ta l.length tc, .int .i64 ((A : Int) + 1)] 44 (0, 0)) := Qr.blk_set1 KG2.out _; have hF3 : Qr.Fr g w ((w2.alloc (.cells #[.int .u8 40, .string ⟨tt.toArray⟩, .bool tg] 77)).setCell ⟨g, 1, none⟩ (.int .i64 ((A : Int) + 1))) := hF2.set rfl _; have hPS3 : Qr.PS g l r.tail ((w2.alloc (.cells #[.int .u8 40, .string ⟨tt.toArray⟩, .bool tg] 77)).setCell ⟨g, 1, none⟩ (.int .i64 ((A : Int) + 1))) := Qr.PS.of HPP.out KG.out hF3 HTE.out.1 kg3 HA1.out; have KR3 := Lib.hid (Tx.blk_far (a := ⟨g, 1, none⟩) KR2.out (show w.heap.size ≠ g by omega) (.int .i64 ((A : Int) + 1))); have s3 : ((w2.alloc (.cells #[.int .u8 40, .string ⟨tt.toArray⟩, .bool tg] 77)).setCell ⟨g, 1, none⟩ (.int .i64 ((A : Int) + 1))).heap.size = w2.heap.size + 1 := (by simp [World.setCell]); clear kg3)
    | (go_at_call 75; refine (begins_c g l r _ hP0).mono ?_; rintro e w1 ⟨rfl, hb1⟩; rw [HB.out]; have hP1 := hP0.below hb1; have s1 : w.heap.size < w1.heap.size := (by have := hb1.size; simp at this; omega); have KG1 := Lib.hid (Tx.blk_later (Tx.blk_later KG.out (Tx.newb w _)) hb1); have KR1 : Hid (w1.heap[w.heap.size]? = some (.cells Qr.zeroQ 25 (0, 0))) := Lib.hid (Tx.blk_later (heap_alloc_new w _) hb1); have hF1 : Qr.Fr g w w1 := ((Qr.Fr.refl g w).alloc _).trans (.of_below hb1)))
  exact ⟨rfl, rfl, hF4'⟩

set_option maxHeartbeats 800000 in
theorem prim_par_bad (g : Nat) (l r : List Qr.Tok) (w : World) (hP : Qr.PS g l r w) (kk : UInt8) (tt : List UInt8) (tg : Bool) (K : Int) (ht : Qr.lk r = ⟨kk, tt, tg⟩) (hK : (kk.toNat : Int) = K) (hb : Qr.begins r = true) (h40 : K = 40) (x : Qr.PR) (hOr : ∀ w, Qr.PS g l r.tail w → Calls Tryz.prog 30 #[.pointer (some ⟨g, 0, none⟩)] w (Qr.Res g l x w)) (q : Qr.Qy) (r' : List Qr.Tok) (ho : x = some (q, r')) (k5 : UInt8) (t5 : List UInt8) (g5 : Bool) (K5 : Int) (ht5 : Qr.lk r' = ⟨k5, t5, g5⟩) (hK5 : (k5.toNat : Int) = K5) (h41 : k5 ≠ 41) :
    Calls Tryz.prog 87 #[.pointer (some ⟨g, 0, none⟩)] w fun e w' => e = .panicked [{ v := Qr.wrongP, recovered := false }] ∧ Qr.Fr g w w' := by
  have hsl := hP.suf.length_le
  have hll := hP.len
  have hgl := hP.lt
  obtain ⟨ta, tc, kg, _, _⟩ := hP.blk
  obtain ⟨A, hA⟩ : ∃ A, l.length - r.length = A := ⟨_, rfl⟩
  rw [hA] at kg
  have hP0 := hP.below (Tx.newb w (.cells Qr.zeroQ 25))
  have KG := Lib.hid kg; clear kg
  have HPP := Lib.hid hP; clear hP
  have hk1 := Qr.begins_ne hb
  have hte := Qr.tail_eats hk1
  have L0 := fun w h => look0 (K := K) (w := w) (g := g) (l := l) ht hK h
  have HB := Lib.hid hb; clear hb
  have HTE := Lib.hid hte; clear hk1
  have hA1 : (A : Int) + 1 = ((l.length - r.tail.length : Nat) : Int) := by have := hte.2; rw [List.length_tail] at this ⊢; omega
  have hw1 := IntWalk.i64_in ((A : Int) + 1) ⟨by omega, by omega⟩
  have HA1 := Lib.hid hA1; clear hA1 hte ht hK
  subst h40
  have HO := Lib.hid ho; clear ho
  have L5 := fun w h => look0 (K := K5) (w := w) (g := g) (l := l) ht5 hK5 h
  obtain ⟨A5, hA5⟩ : ∃ A5, l.length - r'.length = A5 := ⟨_, rfl⟩
  have hw5 := IntWalk.i64_in ((A5 : Int) + 1) ⟨by omega, by omega⟩
  have HA5 := Lib.hid hA5
  have n1 : (K5 == 41) = false := by rw [← hK5, show (41 : Int) = ((41 : UInt8).toNat : Int) from rfl, Qr.k_eq]; exact beq_eq_false_iff_ne.2 h41
  have n2 : (K5 != 41) = true := by rw [bne, n1]; rfl
  have n3 : ¬ K5 = 41 := beq_eq_false_iff_ne.1 n1
  clear ht5 hK5 h41 hA5
  go_enter Tryz.func87, Tryz.ntmps87
  go_wp2_with (first
    | (go_at_call 76; refine (L5 _ (hP4.below (Tx.newb w4 (.cells #[.int .i64 qo, .int .i64 qf, .slice qsa qsn qsc, .int .i64 qa, .int .i64 qb, .slice qka qkn qkc] 25)))).mono ?_; rintro e w5 ⟨rfl, hb5⟩; have s5 := hb5.size; simp only [World.size_alloc] at s5; obtain ⟨ta4, tc4, kg4, _, _⟩ := hP4.blk; have KP4 := Lib.hid kg4; rw [HA5.out] at kg4; have kg5 := Tx.blk_later (Tx.blk_later kg4 (Tx.newb w4 (.cells #[.int .i64 qo, .int .i64 qf, .slice qsa qsn qsc, .int .i64 qa, .int .i64 qb, .slice qka qkn qkc] 25))) hb5; have kR5 := Tx.blk_later (Tx.blk_later KR4.out (Tx.newb w4 (.cells #[.int .i64 qo, .int .i64 qf, .slice qsa qsn qsc, .int .i64 qa, .int .i64 qb, .slice qka qkn qkc] 25))) hb5; have kQ5 := Tx.blk_later (heap_alloc_new w4 (.cells #[.int .i64 qo, .int .i64 qf, .slice qsa qsn qsc, .int .i64 qa, .int .i64 qb, .slice qka qkn qkc] 25)) hb5; have hF5 : Qr.Fr g w4 w5 := ((Qr.Fr.refl g w4).alloc _).trans (.of_below hb5); have e5 : w5.cell? ⟨g, 1, none⟩ = some (.int .i64 (A5 : Int)) := (Tx.blk kg5).1 1; have f5 : ∀ i, w5.frozen? ⟨g, i, none⟩ = false := (Tx.blk kg5).2.1; have fr5 : ∀ i, w5.frozen? ⟨w.heap.size, i, none⟩ = false := (Tx.blk kR5).2.1; have y0 : ∀ v, (w5.setCell ⟨g, 1, none⟩ v).cell? ⟨w.heap.size, 0, none⟩ = some (.int .i64 0) := (fun v => (Tx.blk (Tx.blk_far (a := ⟨g, 1, none⟩) kR5 (show w.heap.size ≠ g by omega) v)).1 0); have y1 : ∀ v, (w5.setCell ⟨g, 1, none⟩ v).cell? ⟨w.heap.size, 1, none⟩ = some (.int .i64 0) := (fun v => (Tx.blk (Tx.blk_far (a := ⟨g, 1, none⟩) kR5 (show w.heap.size ≠ g by omega) v)).1 1); have y2 : ∀ v, (w5.setCell ⟨g, 1, none⟩ v).cell? ⟨w.heap.size, 2, none⟩ = some (.slice none 0 0) := (fun v => (Tx.blk (Tx.blk_far (a := ⟨g, 1, none⟩) kR5 (show w.heap.size ≠ g by omega) v)).1 2); have y3 : ∀ v, (w5.setCell ⟨g, 1, none⟩ v).cell? ⟨w.heap.size, 3, none⟩ = some (.int .i64 0) := (fun v => (Tx.blk (Tx.blk_far (a := ⟨g, 1, none⟩) kR5 (show w.heap.size ≠ g by omega) v)).1 3); have y4 : ∀ v, (w5.setCell ⟨g, 1, none⟩ v).cell? ⟨w.heap.size, 4, none⟩ = some (.int .i64 0) := (fun v => (Tx.blk (Tx.blk_far (a := ⟨g, 1, none⟩) kR5 (show w.heap.size ≠ g by omega) v)).1 4); have y5 : ∀ v, (w5.setCell ⟨g, 1, none⟩ v).cell? ⟨w.heap.size, 5, none⟩ = some (.slice none 0 0) := (fun v => (Tx.blk (Tx.blk_far (a := ⟨g, 1, none⟩) kR5 (show w.heap.size ≠ g by omega) v)).1 5); have x0 : ∀ v, (w5.setCell ⟨g, 1, none⟩ v).cell? ⟨w4.heap.size, 0, none⟩ = some (.int .i64 qo) := (fun v => (Tx.blk (Tx.blk_far (a := ⟨g, 1, none⟩) kQ5 (show w4.heap.size ≠ g by omega) v)).1 0); have x1 : ∀ v, (w5.setCell ⟨g, 1, none⟩ v).cell? ⟨w4.heap.size, 1, none⟩ = some (.int .i64 qf) := (fun v => (Tx.blk (Tx.blk_far (a := ⟨g, 1, none⟩) kQ5 (show w4.heap.size ≠ g by omega) v)).1 1); have x2 : ∀ v, (w5.setCell ⟨g, 1, none⟩ v).cell? ⟨w4.heap.size, 2, none⟩ = some (.slice qsa qsn qsc) := (fun v => (Tx.blk (Tx.blk_far (a := ⟨g, 1, none⟩) kQ5 (show w4.heap.size ≠ g by omega) v)).1 2); have x3 : ∀ v, (w5.setCell ⟨g, 1, none⟩ v).cell? ⟨w4.heap.size, 3, none⟩ = some (.int .i64 qa) := (fun v => (Tx.blk (Tx.blk_far (a := ⟨g, 1, none⟩) kQ5 (show w4.heap.size ≠ g by omega) v)).1 3); have x4 : ∀ v, (w5.setCell ⟨g, 1, none⟩ v).cell? ⟨w4.heap.size, 4, none⟩ = some (.int .i64 qb) := (fun v => (Tx.blk (Tx.blk_far (a := ⟨g, 1, none⟩) kQ5 (show w4.heap.size ≠ g by omega) v)).1 4); have x5 : ∀ v, (w5.setCell ⟨g, 1, none⟩ v).cell? ⟨w4.heap.size, 5, none⟩ = some (.slice qka qkn qkc) := (fun v => (Tx.blk (Tx.blk_far (a := ⟨g, 1, none⟩) kQ5 (show w4.heap.size ≠ g by omega) v)).1 5); have KG5 := Lib.hid kg5; clear kg4 kg5 kR5 kQ5)
    | (go_at_call 30; refine (hOr _ hPS3).mono ?_; rintro e w4 h4; rw [HO.out] at h4; obtain ⟨qo, qf, qa, qb, qsa, qsn, qsc, qka, qkn, qkc, rfl, hq4, hP4, hF4⟩ := h4.get; have s4 := hF4.size; have KR4 := Lib.hid ((hF4.block w.heap.size (by omega) (by omega)).trans KR3.out); have hF4' := hF3.trans hF4; clear eg fg)
    | (go_at_call 76; refine (L0 _ hP1).mono ?_; rintro e w2 ⟨rfl, hb2⟩; have s2 := hb2.size; have kT2 : (w2.alloc (.cells #[.int .u8 40, .string ⟨tt.toArray⟩, .bool tg] 77)).heap[w2.heap.size]? = some (.cells #[.int .u8 40, .string ⟨tt.toArray⟩, .bool tg] 77 (0, 0)) := heap_alloc_new _ _; have kg2 : (w2.alloc (.cells #[.int .u8 40, .string ⟨tt.toArray⟩, .bool tg] 77)).heap[g]? = some (.cells #[.slice ta l.length tc, .int .i64 (A : Int)] 44 (0, 0)) := Tx.blk_later (Tx.blk_later KG1.out hb2) (Tx.newb w2 _); have kR2 : (w2.alloc (.cells #[.int .u8 40, .string ⟨tt.toArray⟩, .bool tg] 77)).heap[w.heap.size]? = some (.cells Qr.zeroQ 25 (0, 0)) := Tx.blk_later (Tx.blk_later KR1.out hb2) (Tx.newb w2 _); have hF2 : Qr.Fr g w (w2.alloc (.cells #[.int .u8 40, .string ⟨tt.toArray⟩, .bool tg] 77)) := (hF1.trans (.of_below hb2)).alloc _; have hP2 : Qr.PS g l r (w2.alloc (.cells #[.int .u8 40, .string ⟨tt.toArray⟩, .bool tg] 77)) := (hP1.below hb2).below (Tx.newb w2 _); have eg : (w2.alloc (.cells #[.int .u8 40, .string ⟨tt.toArray⟩, .bool tg] 77)).cell? ⟨g, 1, none⟩ = some (.int .i64 (A : Int)) := (Tx.blk kg2).1 1; have fg : ∀ i, (w2.alloc (.cells #[.int .u8 40, .string ⟨tt.toArray⟩, .bool tg] 77)).frozen? ⟨g, i, none⟩ = false := (Tx.blk kg2).2.1; have KT2 := Lib.hid kT2; have KG2 := Lib.hid kg2; have KR2 := Lib.hid kR2; clear kT2 kg2 kR2; have kg3 : ((w2.alloc (.cells #[.int .u8 40, .string ⟨tt.toArray⟩, .bool tg] 77)).setCell ⟨g, 1, none⟩ (.int .i64 ((A : Int) + 1))).heap[g]? = some (.cells #[.slice ta l.length tc, .int .i64 ((A : Int) + 1)] 44 (0, 0)) := Qr.blk_set1 KG2.out _; have hF3 : Qr.Fr g w ((w2.alloc (.cells #[.int .u8 40, .string ⟨tt.toArray⟩, .bool tg] 77)).setCell ⟨g, 1, none⟩ (.int .i64 ((A : Int) + 1))) := hF2.set rfl _; have hPS3 : Qr.PS g l r.tail ((w2.alloc (.cells #[.int .u8 40, .string ⟨tt.toArray⟩, .bool tg] 77)).setCell ⟨g, 1, none⟩ (.int .i64 ((A : Int) + 1))) := Qr.PS.of HPP.out KG.out hF3 HTE.out.1 kg3 HA1.out; have KR3 := Lib.hid (Tx.blk_far (a := ⟨g, 1, none⟩) KR2.out (show w.heap.size ≠ g by omega) (.int .i64 ((A : Int) + 1))); have s3 : ((w2.alloc (.cells #[.int .u8 40, .string ⟨tt.toArray⟩, .bool tg] 77)).setCell ⟨g, 1, none⟩ (.int .i64 ((A : Int) + 1))).heap.size = w2.heap.size + 1 := (by simp [World.setCell]); clear kg3)
    | (go_at_call 75; refine (begins_c g l r _ hP0).mono ?_; rintro e w1 ⟨rfl, hb1⟩; rw [HB.out]; have hP1 := hP0.below hb1; have s1 : w.heap.size < w1.heap.size := (by have := hb1.size; simp at this; omega); have KG1 := Lib.hid (Tx.blk_later (Tx.blk_later KG.out (Tx.newb w _)) hb1); have KR1 : Hid (w1.heap[w.heap.size]? = some (.cells Qr.zeroQ 25 (0, 0))) := Lib.hid (Tx.blk_later (heap_alloc_new w _) hb1); have hF1 : Qr.Fr g w w1 := ((Qr.Fr.refl g w).alloc _).trans (.of_below hb1)))
  exact ⟨rfl, rfl, (hF4'.trans hF5)⟩

set_option maxHeartbeats 800000 in
theorem prim_par_ok (g : Nat) (l r : List Qr.Tok) (w : World) (hP : Qr.PS g l r w) (kk : UInt8) (tt : List UInt8) (tg : Bool) (K : Int) (ht : Qr.lk r = ⟨kk, tt, tg⟩) (hK : (kk.toNat : Int) = K) (hb : Qr.begins r = true) (h40 : K = 40) (x : Qr.PR) (hOr : ∀ w, Qr.PS g l r.tail w → Calls Tryz.prog 30 #[.pointer (some ⟨g, 0, none⟩)] w (Qr.Res g l x w)) (q : Qr.Qy) (r' : List Qr.Tok) (ho : x = some (q, r')) (k5 : UInt8) (t5 : List UInt8) (g5 : Bool) (K5 : Int) (ht5 : Qr.lk r' = ⟨k5, t5, g5⟩) (hK5 : (k5.toNat : Int) = K5) (hr' : r' <:+ r) (h41 : k5 = 41) :
    Calls Tryz.prog 87 #[.pointer (some ⟨g, 0, none⟩)] w fun e w' => Qr.Res g l (some (q, r'.tail)) w e w' := by
  have hsl := hP.suf.length_le
  have hll := hP.len
  have hgl := hP.lt
  obtain ⟨ta, tc, kg, _, _⟩ := hP.blk
  obtain ⟨A, hA⟩ : ∃ A, l.length - r.length = A := ⟨_, rfl⟩
  rw [hA] at kg
  have hP0 := hP.below (Tx.newb w (.cells Qr.zeroQ 25))
  have KG := Lib.hid kg; clear kg
  have HPP := Lib.hid hP; clear hP
  have hk1 := Qr.begins_ne hb
  have hte := Qr.tail_eats hk1
  have L0 := fun w h => look0 (K := K) (w := w) (g := g) (l := l) ht hK h
  have HB := Lib.hid hb; clear hb
  have HTE := Lib.hid hte; clear hk1
  have hA1 : (A : Int) + 1 = ((l.length - r.tail.length : Nat) : Int) := by have := hte.2; rw [List.length_tail] at this ⊢; omega
  have hw1 := IntWalk.i64_in ((A : Int) + 1) ⟨by omega, by omega⟩
  have HA1 := Lib.hid hA1; clear hA1 hte ht hK
  subst h40
  have HO := Lib.hid ho; clear ho
  have L5 := fun w h => look0 (K := K5) (w := w) (g := g) (l := l) ht5 hK5 h
  obtain ⟨A5, hA5⟩ : ∃ A5, l.length - r'.length = A5 := ⟨_, rfl⟩
  have hw5 := IntWalk.i64_in ((A5 : Int) + 1) ⟨by omega, by omega⟩
  have HA5 := Lib.hid hA5
  have hte5 := Qr.tail_eats (r := r') (by rw [ht5]; show k5 ≠ 0; rw [h41]; decide)
  have hA6 : (A5 : Int) + 1 = ((l.length - r'.tail.length : Nat) : Int) := by
    have h1 := hte5.2
    have h2 := hr'.length_le
    rw [List.length_tail] at h1 ⊢
    omega
  have HA6 := Lib.hid hA6
  have HT5 := Lib.hid hte5
  have h9 : K5 = 41 := by rw [← hK5, h41]; rfl
  clear ht5 hK5 h41 hA5 hA6 hte5
  subst h9
  go_enter Tryz.func87, Tryz.ntmps87
  go_wp2_with (first
    | (go_at_call 76; refine (L5 _ (hP4.below (Tx.newb w4 (.cells #[.int .i64 qo, .int .i64 qf, .slice qsa qsn qsc, .int .i64 qa, .int .i64 qb, .slice qka qkn qkc] 25)))).mono ?_; rintro e w5 ⟨rfl, hb5⟩; have s5 := hb5.size; simp only [World.size_alloc] at s5; obtain ⟨ta4, tc4, kg4, _, _⟩ := hP4.blk; have KP4 := Lib.hid kg4; rw [HA5.out] at kg4; have kg5 := Tx.blk_later (Tx.blk_later kg4 (Tx.newb w4 (.cells #[.int .i64 qo, .int .i64 qf, .slice qsa qsn qsc, .int .i64 qa, .int .i64 qb, .slice qka qkn qkc] 25))) hb5; have kR5 := Tx.blk_later (Tx.blk_later KR4.out (Tx.newb w4 (.cells #[.int .i64 qo, .int .i64 qf, .slice qsa qsn qsc, .int .i64 qa, .int .i64 qb, .slice qka qkn qkc] 25))) hb5; have kQ5 := Tx.blk_later (heap_alloc_new w4 (.cells #[.int .i64 qo, .int .i64 qf, .slice qsa qsn qsc, .int .i64 qa, .int .i64 qb, .slice qka qkn qkc] 25)) hb5; have hF5 : Qr.Fr g w4 w5 := ((Qr.Fr.refl g w4).alloc _).trans (.of_below hb5); have e5 : w5.cell? ⟨g, 1, none⟩ = some (.int .i64 (A5 : Int)) := (Tx.blk kg5).1 1; have f5 : ∀ i, w5.frozen? ⟨g, i, none⟩ = false := (Tx.blk kg5).2.1; have fr5 : ∀ i, w5.frozen? ⟨w.heap.size, i, none⟩ = false := (Tx.blk kR5).2.1; have y0 : ∀ v, (w5.setCell ⟨g, 1, none⟩ v).cell? ⟨w.heap.size, 0, none⟩ = some (.int .i64 0) := (fun v => (Tx.blk (Tx.blk_far (a := ⟨g, 1, none⟩) kR5 (show w.heap.size ≠ g by omega) v)).1 0); have y1 : ∀ v, (w5.setCell ⟨g, 1, none⟩ v).cell? ⟨w.heap.size, 1, none⟩ = some (.int .i64 0) := (fun v => (Tx.blk (Tx.blk_far (a := ⟨g, 1, none⟩) kR5 (show w.heap.size ≠ g by omega) v)).1 1); have y2 : ∀ v, (w5.setCell ⟨g, 1, none⟩ v).cell? ⟨w.heap.size, 2, none⟩ = some (.slice none 0 0) := (fun v => (Tx.blk (Tx.blk_far (a := ⟨g, 1, none⟩) kR5 (show w.heap.size ≠ g by omega) v)).1 2); have y3 : ∀ v, (w5.setCell ⟨g, 1, none⟩ v).cell? ⟨w.heap.size, 3, none⟩ = some (.int .i64 0) := (fun v => (Tx.blk (Tx.blk_far (a := ⟨g, 1, none⟩) kR5 (show w.heap.size ≠ g by omega) v)).1 3); have y4 : ∀ v, (w5.setCell ⟨g, 1, none⟩ v).cell? ⟨w.heap.size, 4, none⟩ = some (.int .i64 0) := (fun v => (Tx.blk (Tx.blk_far (a := ⟨g, 1, none⟩) kR5 (show w.heap.size ≠ g by omega) v)).1 4); have y5 : ∀ v, (w5.setCell ⟨g, 1, none⟩ v).cell? ⟨w.heap.size, 5, none⟩ = some (.slice none 0 0) := (fun v => (Tx.blk (Tx.blk_far (a := ⟨g, 1, none⟩) kR5 (show w.heap.size ≠ g by omega) v)).1 5); have x0 : ∀ v, (w5.setCell ⟨g, 1, none⟩ v).cell? ⟨w4.heap.size, 0, none⟩ = some (.int .i64 qo) := (fun v => (Tx.blk (Tx.blk_far (a := ⟨g, 1, none⟩) kQ5 (show w4.heap.size ≠ g by omega) v)).1 0); have x1 : ∀ v, (w5.setCell ⟨g, 1, none⟩ v).cell? ⟨w4.heap.size, 1, none⟩ = some (.int .i64 qf) := (fun v => (Tx.blk (Tx.blk_far (a := ⟨g, 1, none⟩) kQ5 (show w4.heap.size ≠ g by omega) v)).1 1); have x2 : ∀ v, (w5.setCell ⟨g, 1, none⟩ v).cell? ⟨w4.heap.size, 2, none⟩ = some (.slice qsa qsn qsc) := (fun v => (Tx.blk (Tx.blk_far (a := ⟨g, 1, none⟩) kQ5 (show w4.heap.size ≠ g by omega) v)).1 2); have x3 : ∀ v, (w5.setCell ⟨g, 1, none⟩ v).cell? ⟨w4.heap.size, 3, none⟩ = some (.int .i64 qa) := (fun v => (Tx.blk (Tx.blk_far (a := ⟨g, 1, none⟩) kQ5 (show w4.heap.size ≠ g by omega) v)).1 3); have x4 : ∀ v, (w5.setCell ⟨g, 1, none⟩ v).cell? ⟨w4.heap.size, 4, none⟩ = some (.int .i64 qb) := (fun v => (Tx.blk (Tx.blk_far (a := ⟨g, 1, none⟩) kQ5 (show w4.heap.size ≠ g by omega) v)).1 4); have x5 : ∀ v, (w5.setCell ⟨g, 1, none⟩ v).cell? ⟨w4.heap.size, 5, none⟩ = some (.slice qka qkn qkc) := (fun v => (Tx.blk (Tx.blk_far (a := ⟨g, 1, none⟩) kQ5 (show w4.heap.size ≠ g by omega) v)).1 5); have KG5 := Lib.hid kg5; clear kg4 kg5 kR5 kQ5)
    | (go_at_call 30; refine (hOr _ hPS3).mono ?_; rintro e w4 h4; rw [HO.out] at h4; obtain ⟨qo, qf, qa, qb, qsa, qsn, qsc, qka, qkn, qkc, rfl, hq4, hP4, hF4⟩ := h4.get; have s4 := hF4.size; have KR4 := Lib.hid ((hF4.block w.heap.size (by omega) (by omega)).trans KR3.out); have hF4' := hF3.trans hF4; clear eg fg)
    | (go_at_call 76; refine (L0 _ hP1).mono ?_; rintro e w2 ⟨rfl, hb2⟩; have s2 := hb2.size; have kT2 : (w2.alloc (.cells #[.int .u8 40, .string ⟨tt.toArray⟩, .bool tg] 77)).heap[w2.heap.size]? = some (.cells #[.int .u8 40, .string ⟨tt.toArray⟩, .bool tg] 77 (0, 0)) := heap_alloc_new _ _; have kg2 : (w2.alloc (.cells #[.int .u8 40, .string ⟨tt.toArray⟩, .bool tg] 77)).heap[g]? = some (.cells #[.slice ta l.length tc, .int .i64 (A : Int)] 44 (0, 0)) := Tx.blk_later (Tx.blk_later KG1.out hb2) (Tx.newb w2 _); have kR2 : (w2.alloc (.cells #[.int .u8 40, .string ⟨tt.toArray⟩, .bool tg] 77)).heap[w.heap.size]? = some (.cells Qr.zeroQ 25 (0, 0)) := Tx.blk_later (Tx.blk_later KR1.out hb2) (Tx.newb w2 _); have hF2 : Qr.Fr g w (w2.alloc (.cells #[.int .u8 40, .string ⟨tt.toArray⟩, .bool tg] 77)) := (hF1.trans (.of_below hb2)).alloc _; have hP2 : Qr.PS g l r (w2.alloc (.cells #[.int .u8 40, .string ⟨tt.toArray⟩, .bool tg] 77)) := (hP1.below hb2).below (Tx.newb w2 _); have eg : (w2.alloc (.cells #[.int .u8 40, .string ⟨tt.toArray⟩, .bool tg] 77)).cell? ⟨g, 1, none⟩ = some (.int .i64 (A : Int)) := (Tx.blk kg2).1 1; have fg : ∀ i, (w2.alloc (.cells #[.int .u8 40, .string ⟨tt.toArray⟩, .bool tg] 77)).frozen? ⟨g, i, none⟩ = false := (Tx.blk kg2).2.1; have KT2 := Lib.hid kT2; have KG2 := Lib.hid kg2; have KR2 := Lib.hid kR2; clear kT2 kg2 kR2; have kg3 : ((w2.alloc (.cells #[.int .u8 40, .string ⟨tt.toArray⟩, .bool tg] 77)).setCell ⟨g, 1, none⟩ (.int .i64 ((A : Int) + 1))).heap[g]? = some (.cells #[.slice ta l.length tc, .int .i64 ((A : Int) + 1)] 44 (0, 0)) := Qr.blk_set1 KG2.out _; have hF3 : Qr.Fr g w ((w2.alloc (.cells #[.int .u8 40, .string ⟨tt.toArray⟩, .bool tg] 77)).setCell ⟨g, 1, none⟩ (.int .i64 ((A : Int) + 1))) := hF2.set rfl _; have hPS3 : Qr.PS g l r.tail ((w2.alloc (.cells #[.int .u8 40, .string ⟨tt.toArray⟩, .bool tg] 77)).setCell ⟨g, 1, none⟩ (.int .i64 ((A : Int) + 1))) := Qr.PS.of HPP.out KG.out hF3 HTE.out.1 kg3 HA1.out; have KR3 := Lib.hid (Tx.blk_far (a := ⟨g, 1, none⟩) KR2.out (show w.heap.size ≠ g by omega) (.int .i64 ((A : Int) + 1))); have s3 : ((w2.alloc (.cells #[.int .u8 40, .string ⟨tt.toArray⟩, .bool tg] 77)).setCell ⟨g, 1, none⟩ (.int .i64 ((A : Int) + 1))).heap.size = w2.heap.size + 1 := (by simp [World.setCell]); clear kg3)
    | (go_at_call 75; refine (begins_c g l r _ hP0).mono ?_; rintro e w1 ⟨rfl, hb1⟩; rw [HB.out]; have hP1 := hP0.below hb1; have s1 : w.heap.size < w1.heap.size := (by have := hb1.size; simp at this; omega); have KG1 := Lib.hid (Tx.blk_later (Tx.blk_later KG.out (Tx.newb w _)) hb1); have KR1 : Hid (w1.heap[w.heap.size]? = some (.cells Qr.zeroQ 25 (0, 0))) := Lib.hid (Tx.blk_later (heap_alloc_new w _) hb1); have hF1 : Qr.Fr g w w1 := ((Qr.Fr.refl g w).alloc _).trans (.of_below hb1)))
  refine bodyPost_ret (v := .agg #[.int .i64 qo, .int .i64 qf, .slice qsa qsn qsc, .int .i64 qa, .int .i64 qb, .slice qka qkn qkc]) (by simp [results, Tryz.results87, go_sem, y0, y1, y2, y3, y4, y5]) rfl ⟨⟨qo, qf, qsa, qsn, qsc, qa, qb, qka, qkn, qkc⟩, rfl, ?_, ?_, (Qr.Fr.put6 ((hF4'.trans hF5).set rfl _) (Nat.le_refl _) _ _ _ _ _ _)⟩
  · exact (hq4.kp ((Qr.Kp.fr (hF5.set rfl _) (by omega)).trans (Qr.Kp.put6 (Qr.Kp.refl _ _) (by omega) _ _ _ _ _ _))).mono (by omega)
  · exact Qr.PS.of' hP4 KP4.out (Tx.put6 ((hF5.set rfl _).below (Nat.le_refl _) hP4.lt) (by omega) _ _ _ _ _ _) HT5.out.1 (Qr.far6 (Qr.blk_set1 KG5.out _) (show g ≠ w.heap.size by omega) _ _ _ _ _ _) HA6.out
end Go.Proofs.YtkahplbjbidemaaGreatDoor

/- A primary is read that is a term, with or without a field: what the program's call does, each way. -/
namespace Go.Proofs.YtkahplbjbidemaaGreatDoor
open Go.RowKit
set_option maxRecDepth 100000
attribute [local go_sem] Qr.run_tok0 Qr.run_tok1 Qr.run_tok2

set_option maxHeartbeats 1600000 in
theorem prim_dir_none (g : Nat) (l r : List Qr.Tok) (w : World) (hP : Qr.PS g l r w) (kk : UInt8) (tt : List UInt8) (tg : Bool) (K : Int) (ht : Qr.lk r = ⟨kk, tt, tg⟩) (hK : (kk.toNat : Int) = K) (hb : Qr.begins r = true) (nk : UInt8) (nt : List UInt8) (ng : Bool) (N : Int) (hn : Qr.lk1 r = ⟨nk, nt, ng⟩) (hN : (nk.toNat : Int) = N) (hw : Qr.word0 r = true) (h40 : ¬ K = 40) (hpass : (K == 114) = false ∨ (K = 114 ∧ (N == 58) = false) ∨ (K = 114 ∧ N = 58 ∧ ng = false)) (hx : Qr.pTerm true 0 r = none) :
    Calls Tryz.prog 87 #[.pointer (some ⟨g, 0, none⟩)] w fun e w' => e = .panicked [{ v := Qr.wrongP, recovered := false }] ∧ Qr.Fr g w w' := by
  have hsl := hP.suf.length_le
  have hll := hP.len
  have hgl := hP.lt
  obtain ⟨ta, tc, kg, _, _⟩ := hP.blk
  obtain ⟨A, hA⟩ : ∃ A, l.length - r.length = A := ⟨_, rfl⟩
  rw [hA] at kg
  have hP0 := hP.below (Tx.newb w (.cells Qr.zeroQ 25))
  have KG := Lib.hid kg; clear kg
  have HPP := Lib.hid hP; clear hP
  have hk1 := Qr.begins_ne hb
  have hte := Qr.tail_eats hk1
  have L0 := fun w h => look0 (K := K) (w := w) (g := g) (l := l) ht hK h
  have HB := Lib.hid hb; clear hb
  have HTE := Lib.hid hte; clear hk1
  have hA1 : (A : Int) + 1 = ((l.length - r.tail.length : Nat) : Int) := by have := hte.2; rw [List.length_tail] at this ⊢; omega
  have hw1 := IntWalk.i64_in ((A : Int) + 1) ⟨by omega, by omega⟩
  have HA1 := Lib.hid hA1; clear hA1 hte ht hK
  have L1 := fun w h => look1 (K := N) (w := w) (g := g) (l := l) hn hN h
  clear hN hn
  have n40 : (K == 40) = false := beq_eq_false_iff_ne.2 h40
  have HW := Lib.hid hw; clear hw
  have HX := Lib.hid hx; clear hx
  rcases hpass with hp | ⟨rfl, hp⟩ | ⟨rfl, rfl, rfl⟩
  · go_enter Tryz.func87, Tryz.ntmps87
    go_wp2_with (first
      | (go_at_call 96; refine (term_c g l r _ hP3 HW.out).mono ?_; rintro e w4 h4; rw [HX.out] at h4; obtain ⟨rfl, hF4⟩ := h4.bad; have hF4' := hF3.trans hF4)
      | (go_at_call 76; refine (L1 _ hP2).mono ?_; rintro e w3 ⟨rfl, hb3⟩; have s3 := hb3.size; simp only [World.size_alloc] at s3; have kT3 : (w3.alloc (.cells #[.int .u8 N, .string ⟨nt.toArray⟩, .bool ng] 77)).heap[w2.heap.size]? = some (.cells #[.int .u8 K, .string ⟨tt.toArray⟩, .bool tg] 77 (0, 0)) := Tx.blk_later (Tx.blk_later KT2.out hb3) (Tx.newb w3 _); have kg3 : (w3.alloc (.cells #[.int .u8 N, .string ⟨nt.toArray⟩, .bool ng] 77)).heap[g]? = some (.cells #[.slice ta l.length tc, .int .i64 (A : Int)] 44 (0, 0)) := Tx.blk_later (Tx.blk_later KG2.out hb3) (Tx.newb w3 _); have kR3 : (w3.alloc (.cells #[.int .u8 N, .string ⟨nt.toArray⟩, .bool ng] 77)).heap[w.heap.size]? = some (.cells Qr.zeroQ 25 (0, 0)) := Tx.blk_later (Tx.blk_later KR2.out hb3) (Tx.newb w3 _); have hF3 : Qr.Fr g w (w3.alloc (.cells #[.int .u8 N, .string ⟨nt.toArray⟩, .bool ng] 77)) := (hF2.trans (.of_below hb3)).alloc _; have hP3 : Qr.PS g l r (w3.alloc (.cells #[.int .u8 N, .string ⟨nt.toArray⟩, .bool ng] 77)) := (hP2.below hb3).below (Tx.newb w3 _); have e30 : (w3.alloc (.cells #[.int .u8 N, .string ⟨nt.toArray⟩, .bool ng] 77)).cell? ⟨w2.heap.size, 0, none⟩ = some (.int .u8 K) := (Tx.blk kT3).1 0; have eg3 : (w3.alloc (.cells #[.int .u8 N, .string ⟨nt.toArray⟩, .bool ng] 77)).cell? ⟨g, 1, none⟩ = some (.int .i64 (A : Int)) := (Tx.blk kg3).1 1; have fg3 : ∀ i, (w3.alloc (.cells #[.int .u8 N, .string ⟨nt.toArray⟩, .bool ng] 77)).frozen? ⟨g, i, none⟩ = false := (Tx.blk kg3).2.1; have KT3 := Lib.hid kT3; have KG3 := Lib.hid kg3; have KR3 := Lib.hid kR3; clear kT3 kg3 kR3)
      | (go_at_call 76; refine (L0 _ hP1).mono ?_; rintro e w2 ⟨rfl, hb2⟩; have s2 := hb2.size; have kT2 : (w2.alloc (.cells #[.int .u8 K, .string ⟨tt.toArray⟩, .bool tg] 77)).heap[w2.heap.size]? = some (.cells #[.int .u8 K, .string ⟨tt.toArray⟩, .bool tg] 77 (0, 0)) := heap_alloc_new _ _; have kg2 : (w2.alloc (.cells #[.int .u8 K, .string ⟨tt.toArray⟩, .bool tg] 77)).heap[g]? = some (.cells #[.slice ta l.length tc, .int .i64 (A : Int)] 44 (0, 0)) := Tx.blk_later (Tx.blk_later KG1.out hb2) (Tx.newb w2 _); have kR2 : (w2.alloc (.cells #[.int .u8 K, .string ⟨tt.toArray⟩, .bool tg] 77)).heap[w.heap.size]? = some (.cells Qr.zeroQ 25 (0, 0)) := Tx.blk_later (Tx.blk_later KR1.out hb2) (Tx.newb w2 _); have hF2 : Qr.Fr g w (w2.alloc (.cells #[.int .u8 K, .string ⟨tt.toArray⟩, .bool tg] 77)) := (hF1.trans (.of_below hb2)).alloc _; have hP2 : Qr.PS g l r (w2.alloc (.cells #[.int .u8 K, .string ⟨tt.toArray⟩, .bool tg] 77)) := (hP1.below hb2).below (Tx.newb w2 _); have eg : (w2.alloc (.cells #[.int .u8 K, .string ⟨tt.toArray⟩, .bool tg] 77)).cell? ⟨g, 1, none⟩ = some (.int .i64 (A : Int)) := (Tx.blk kg2).1 1; have fg : ∀ i, (w2.alloc (.cells #[.int .u8 K, .string ⟨tt.toArray⟩, .bool tg] 77)).frozen? ⟨g, i, none⟩ = false := (Tx.blk kg2).2.1; have KT2 := Lib.hid kT2; have KG2 := Lib.hid kg2; have KR2 := Lib.hid kR2; clear kT2 kg2 kR2)
      | (go_at_call 75; refine (begins_c g l r _ hP0).mono ?_; rintro e w1 ⟨rfl, hb1⟩; rw [HB.out]; have hP1 := hP0.below hb1; have s1 : w.heap.size < w1.heap.size := (by have := hb1.size; simp at this; omega); have KG1 := Lib.hid (Tx.blk_later (Tx.blk_later KG.out (Tx.newb w _)) hb1); have KR1 : Hid (w1.heap[w.heap.size]? = some (.cells Qr.zeroQ 25 (0, 0))) := Lib.hid (Tx.blk_later (heap_alloc_new w _) hb1); have hF1 : Qr.Fr g w w1 := ((Qr.Fr.refl g w).alloc _).trans (.of_below hb1)))
    exact ⟨rfl, rfl, hF4'⟩
  · clear n40 h40
    go_enter Tryz.func87, Tryz.ntmps87
    go_wp2_with (first
      | (go_at_call 96; refine (term_c g l r _ hP3 HW.out).mono ?_; rintro e w4 h4; rw [HX.out] at h4; obtain ⟨rfl, hF4⟩ := h4.bad; have hF4' := hF3.trans hF4)
      | (go_at_call 76; refine (L1 _ hP2).mono ?_; rintro e w3 ⟨rfl, hb3⟩; have s3 := hb3.size; simp only [World.size_alloc] at s3; have kT3 : (w3.alloc (.cells #[.int .u8 N, .string ⟨nt.toArray⟩, .bool ng] 77)).heap[w2.heap.size]? = some (.cells #[.int .u8 114, .string ⟨tt.toArray⟩, .bool tg] 77 (0, 0)) := Tx.blk_later (Tx.blk_later KT2.out hb3) (Tx.newb w3 _); have kg3 : (w3.alloc (.cells #[.int .u8 N, .string ⟨nt.toArray⟩, .bool ng] 77)).heap[g]? = some (.cells #[.slice ta l.length tc, .int .i64 (A : Int)] 44 (0, 0)) := Tx.blk_later (Tx.blk_later KG2.out hb3) (Tx.newb w3 _); have kR3 : (w3.alloc (.cells #[.int .u8 N, .string ⟨nt.toArray⟩, .bool ng] 77)).heap[w.heap.size]? = some (.cells Qr.zeroQ 25 (0, 0)) := Tx.blk_later (Tx.blk_later KR2.out hb3) (Tx.newb w3 _); have hF3 : Qr.Fr g w (w3.alloc (.cells #[.int .u8 N, .string ⟨nt.toArray⟩, .bool ng] 77)) := (hF2.trans (.of_below hb3)).alloc _; have hP3 : Qr.PS g l r (w3.alloc (.cells #[.int .u8 N, .string ⟨nt.toArray⟩, .bool ng] 77)) := (hP2.below hb3).below (Tx.newb w3 _); have e30 : (w3.alloc (.cells #[.int .u8 N, .string ⟨nt.toArray⟩, .bool ng] 77)).cell? ⟨w2.heap.size, 0, none⟩ = some (.int .u8 114) := (Tx.blk kT3).1 0; have eg3 : (w3.alloc (.cells #[.int .u8 N, .string ⟨nt.toArray⟩, .bool ng] 77)).cell? ⟨g, 1, none⟩ = some (.int .i64 (A : Int)) := (Tx.blk kg3).1 1; have fg3 : ∀ i, (w3.alloc (.cells #[.int .u8 N, .string ⟨nt.toArray⟩, .bool ng] 77)).frozen? ⟨g, i, none⟩ = false := (Tx.blk kg3).2.1; have KT3 := Lib.hid kT3; have KG3 := Lib.hid kg3; have KR3 := Lib.hid kR3; clear kT3 kg3 kR3)
      | (go_at_call 76; refine (L0 _ hP1).mono ?_; rintro e w2 ⟨rfl, hb2⟩; have s2 := hb2.size; have kT2 : (w2.alloc (.cells #[.int .u8 114, .string ⟨tt.toArray⟩, .bool tg] 77)).heap[w2.heap.size]? = some (.cells #[.int .u8 114, .string ⟨tt.toArray⟩, .bool tg] 77 (0, 0)) := heap_alloc_new _ _; have kg2 : (w2.alloc (.cells #[.int .u8 114, .string ⟨tt.toArray⟩, .bool tg] 77)).heap[g]? = some (.cells #[.slice ta l.length tc, .int .i64 (A : Int)] 44 (0, 0)) := Tx.blk_later (Tx.blk_later KG1.out hb2) (Tx.newb w2 _); have kR2 : (w2.alloc (.cells #[.int .u8 114, .string ⟨tt.toArray⟩, .bool tg] 77)).heap[w.heap.size]? = some (.cells Qr.zeroQ 25 (0, 0)) := Tx.blk_later (Tx.blk_later KR1.out hb2) (Tx.newb w2 _); have hF2 : Qr.Fr g w (w2.alloc (.cells #[.int .u8 114, .string ⟨tt.toArray⟩, .bool tg] 77)) := (hF1.trans (.of_below hb2)).alloc _; have hP2 : Qr.PS g l r (w2.alloc (.cells #[.int .u8 114, .string ⟨tt.toArray⟩, .bool tg] 77)) := (hP1.below hb2).below (Tx.newb w2 _); have eg : (w2.alloc (.cells #[.int .u8 114, .string ⟨tt.toArray⟩, .bool tg] 77)).cell? ⟨g, 1, none⟩ = some (.int .i64 (A : Int)) := (Tx.blk kg2).1 1; have fg : ∀ i, (w2.alloc (.cells #[.int .u8 114, .string ⟨tt.toArray⟩, .bool tg] 77)).frozen? ⟨g, i, none⟩ = false := (Tx.blk kg2).2.1; have KT2 := Lib.hid kT2; have KG2 := Lib.hid kg2; have KR2 := Lib.hid kR2; clear kT2 kg2 kR2)
      | (go_at_call 75; refine (begins_c g l r _ hP0).mono ?_; rintro e w1 ⟨rfl, hb1⟩; rw [HB.out]; have hP1 := hP0.below hb1; have s1 : w.heap.size < w1.heap.size := (by have := hb1.size; simp at this; omega); have KG1 := Lib.hid (Tx.blk_later (Tx.blk_later KG.out (Tx.newb w _)) hb1); have KR1 : Hid (w1.heap[w.heap.size]? = some (.cells Qr.zeroQ 25 (0, 0))) := Lib.hid (Tx.blk_later (heap_alloc_new w _) hb1); have hF1 : Qr.Fr g w w1 := ((Qr.Fr.refl g w).alloc _).trans (.of_below hb1)))
    exact ⟨rfl, rfl, hF4'⟩
  · clear n40 h40
    go_enter Tryz.func87, Tryz.ntmps87
    go_wp2_with (first
      | (go_at_call 96; refine (term_c g l r _ hP3 HW.out).mono ?_; rintro e w4 h4; rw [HX.out] at h4; obtain ⟨rfl, hF4⟩ := h4.bad; have hF4' := hF3.trans hF4)
      | (go_at_call 76; refine (L1 _ hP2).mono ?_; rintro e w3 ⟨rfl, hb3⟩; have s3 := hb3.size; simp only [World.size_alloc] at s3; have kT3 : (w3.alloc (.cells #[.int .u8 58, .string ⟨nt.toArray⟩, .bool false] 77)).heap[w2.heap.size]? = some (.cells #[.int .u8 114, .string ⟨tt.toArray⟩, .bool tg] 77 (0, 0)) := Tx.blk_later (Tx.blk_later KT2.out hb3) (Tx.newb w3 _); have kg3 : (w3.alloc (.cells #[.int .u8 58, .string ⟨nt.toArray⟩, .bool false] 77)).heap[g]? = some (.cells #[.slice ta l.length tc, .int .i64 (A : Int)] 44 (0, 0)) := Tx.blk_later (Tx.blk_later KG2.out hb3) (Tx.newb w3 _); have kR3 : (w3.alloc (.cells #[.int .u8 58, .string ⟨nt.toArray⟩, .bool false] 77)).heap[w.heap.size]? = some (.cells Qr.zeroQ 25 (0, 0)) := Tx.blk_later (Tx.blk_later KR2.out hb3) (Tx.newb w3 _); have hF3 : Qr.Fr g w (w3.alloc (.cells #[.int .u8 58, .string ⟨nt.toArray⟩, .bool false] 77)) := (hF2.trans (.of_below hb3)).alloc _; have hP3 : Qr.PS g l r (w3.alloc (.cells #[.int .u8 58, .string ⟨nt.toArray⟩, .bool false] 77)) := (hP2.below hb3).below (Tx.newb w3 _); have e30 : (w3.alloc (.cells #[.int .u8 58, .string ⟨nt.toArray⟩, .bool false] 77)).cell? ⟨w2.heap.size, 0, none⟩ = some (.int .u8 114) := (Tx.blk kT3).1 0; have eg3 : (w3.alloc (.cells #[.int .u8 58, .string ⟨nt.toArray⟩, .bool false] 77)).cell? ⟨g, 1, none⟩ = some (.int .i64 (A : Int)) := (Tx.blk kg3).1 1; have fg3 : ∀ i, (w3.alloc (.cells #[.int .u8 58, .string ⟨nt.toArray⟩, .bool false] 77)).frozen? ⟨g, i, none⟩ = false := (Tx.blk kg3).2.1; have KT3 := Lib.hid kT3; have KG3 := Lib.hid kg3; have KR3 := Lib.hid kR3; clear kT3 kg3 kR3)
      | (go_at_call 76; refine (L0 _ hP1).mono ?_; rintro e w2 ⟨rfl, hb2⟩; have s2 := hb2.size; have kT2 : (w2.alloc (.cells #[.int .u8 114, .string ⟨tt.toArray⟩, .bool tg] 77)).heap[w2.heap.size]? = some (.cells #[.int .u8 114, .string ⟨tt.toArray⟩, .bool tg] 77 (0, 0)) := heap_alloc_new _ _; have kg2 : (w2.alloc (.cells #[.int .u8 114, .string ⟨tt.toArray⟩, .bool tg] 77)).heap[g]? = some (.cells #[.slice ta l.length tc, .int .i64 (A : Int)] 44 (0, 0)) := Tx.blk_later (Tx.blk_later KG1.out hb2) (Tx.newb w2 _); have kR2 : (w2.alloc (.cells #[.int .u8 114, .string ⟨tt.toArray⟩, .bool tg] 77)).heap[w.heap.size]? = some (.cells Qr.zeroQ 25 (0, 0)) := Tx.blk_later (Tx.blk_later KR1.out hb2) (Tx.newb w2 _); have hF2 : Qr.Fr g w (w2.alloc (.cells #[.int .u8 114, .string ⟨tt.toArray⟩, .bool tg] 77)) := (hF1.trans (.of_below hb2)).alloc _; have hP2 : Qr.PS g l r (w2.alloc (.cells #[.int .u8 114, .string ⟨tt.toArray⟩, .bool tg] 77)) := (hP1.below hb2).below (Tx.newb w2 _); have eg : (w2.alloc (.cells #[.int .u8 114, .string ⟨tt.toArray⟩, .bool tg] 77)).cell? ⟨g, 1, none⟩ = some (.int .i64 (A : Int)) := (Tx.blk kg2).1 1; have fg : ∀ i, (w2.alloc (.cells #[.int .u8 114, .string ⟨tt.toArray⟩, .bool tg] 77)).frozen? ⟨g, i, none⟩ = false := (Tx.blk kg2).2.1; have KT2 := Lib.hid kT2; have KG2 := Lib.hid kg2; have KR2 := Lib.hid kR2; clear kT2 kg2 kR2)
      | (go_at_call 75; refine (begins_c g l r _ hP0).mono ?_; rintro e w1 ⟨rfl, hb1⟩; rw [HB.out]; have hP1 := hP0.below hb1; have s1 : w.heap.size < w1.heap.size := (by have := hb1.size; simp at this; omega); have KG1 := Lib.hid (Tx.blk_later (Tx.blk_later KG.out (Tx.newb w _)) hb1); have KR1 : Hid (w1.heap[w.heap.size]? = some (.cells Qr.zeroQ 25 (0, 0))) := Lib.hid (Tx.blk_later (heap_alloc_new w _) hb1); have hF1 : Qr.Fr g w w1 := ((Qr.Fr.refl g w).alloc _).trans (.of_below hb1)))
    exact ⟨rfl, rfl, hF4'⟩

set_option maxHeartbeats 1600000 in
theorem prim_dir_ok (g : Nat) (l r : List Qr.Tok) (w : World) (hP : Qr.PS g l r w) (kk : UInt8) (tt : List UInt8) (tg : Bool) (K : Int) (ht : Qr.lk r = ⟨kk, tt, tg⟩) (hK : (kk.toNat : Int) = K) (hb : Qr.begins r = true) (nk : UInt8) (nt : List UInt8) (ng : Bool) (N : Int) (hn : Qr.lk1 r = ⟨nk, nt, ng⟩) (hN : (nk.toNat : Int) = N) (hw : Qr.word0 r = true) (h40 : ¬ K = 40) (hpass : (K == 114) = false ∨ (K = 114 ∧ (N == 58) = false) ∨ (K = 114 ∧ N = 58 ∧ ng = false)) (q : Qr.Qy) (r' : List Qr.Tok) (hx : Qr.pTerm true 0 r = some (q, r')) :
    Calls Tryz.prog 87 #[.pointer (some ⟨g, 0, none⟩)] w fun e w' => Qr.Res g l (some (q, r')) w e w' := by
  have hsl := hP.suf.length_le
  have hll := hP.len
  have hgl := hP.lt
  obtain ⟨ta, tc, kg, _, _⟩ := hP.blk
  obtain ⟨A, hA⟩ : ∃ A, l.length - r.length = A := ⟨_, rfl⟩
  rw [hA] at kg
  have hP0 := hP.below (Tx.newb w (.cells Qr.zeroQ 25))
  have KG := Lib.hid kg; clear kg
  have HPP := Lib.hid hP; clear hP
  have hk1 := Qr.begins_ne hb
  have hte := Qr.tail_eats hk1
  have L0 := fun w h => look0 (K := K) (w := w) (g := g) (l := l) ht hK h
  have HB := Lib.hid hb; clear hb
  have HTE := Lib.hid hte; clear hk1
  have hA1 : (A : Int) + 1 = ((l.length - r.tail.length : Nat) : Int) := by have := hte.2; rw [List.length_tail] at this ⊢; omega
  have hw1 := IntWalk.i64_in ((A : Int) + 1) ⟨by omega, by omega⟩
  have HA1 := Lib.hid hA1; clear hA1 hte ht hK
  have L1 := fun w h => look1 (K := N) (w := w) (g := g) (l := l) hn hN h
  clear hN hn
  have n40 : (K == 40) = false := beq_eq_false_iff_ne.2 h40
  have HW := Lib.hid hw; clear hw
  have HX := Lib.hid hx; clear hx
  rcases hpass with hp | ⟨rfl, hp⟩ | ⟨rfl, rfl, rfl⟩
  · go_enter Tryz.func87, Tryz.ntmps87
    go_wp2_with (first
      | (go_at_call 96; refine (term_c g l r _ hP3 HW.out).mono ?_; rintro e w4 h4; rw [HX.out] at h4; obtain ⟨qo, qf, qa, qb, qsa, qsn, qsc, qka, qkn, qkc, rfl, hq4, hP4, hF4⟩ := h4.get; have s4 := hF4.size; simp only [World.size_alloc] at s4; have kR4 := (hF4.block w.heap.size (by omega) (by first | omega | (simp; omega))).trans KR3.out; have hF4' := hF3.trans hF4; have z0 : w4.cell? ⟨w.heap.size, 0, none⟩ = some (.int .i64 0) := (Tx.blk kR4).1 0; have z1 : w4.cell? ⟨w.heap.size, 1, none⟩ = some (.int .i64 0) := (Tx.blk kR4).1 1; have z2 : w4.cell? ⟨w.heap.size, 2, none⟩ = some (.slice none 0 0) := (Tx.blk kR4).1 2; have z3 : w4.cell? ⟨w.heap.size, 3, none⟩ = some (.int .i64 0) := (Tx.blk kR4).1 3; have z4 : w4.cell? ⟨w.heap.size, 4, none⟩ = some (.int .i64 0) := (Tx.blk kR4).1 4; have z5 : w4.cell? ⟨w.heap.size, 5, none⟩ = some (.slice none 0 0) := (Tx.blk kR4).1 5; have fr9 : ∀ i, w4.frozen? ⟨w.heap.size, i, none⟩ = false := (Tx.blk kR4).2.1; obtain ⟨ta4, tc4, kg4, _, _⟩ := hP4.blk; have KP4 := Lib.hid kg4; clear kg4 kR4)
      | (go_at_call 76; refine (L1 _ hP2).mono ?_; rintro e w3 ⟨rfl, hb3⟩; have s3 := hb3.size; simp only [World.size_alloc] at s3; have kT3 : (w3.alloc (.cells #[.int .u8 N, .string ⟨nt.toArray⟩, .bool ng] 77)).heap[w2.heap.size]? = some (.cells #[.int .u8 K, .string ⟨tt.toArray⟩, .bool tg] 77 (0, 0)) := Tx.blk_later (Tx.blk_later KT2.out hb3) (Tx.newb w3 _); have kg3 : (w3.alloc (.cells #[.int .u8 N, .string ⟨nt.toArray⟩, .bool ng] 77)).heap[g]? = some (.cells #[.slice ta l.length tc, .int .i64 (A : Int)] 44 (0, 0)) := Tx.blk_later (Tx.blk_later KG2.out hb3) (Tx.newb w3 _); have kR3 : (w3.alloc (.cells #[.int .u8 N, .string ⟨nt.toArray⟩, .bool ng] 77)).heap[w.heap.size]? = some (.cells Qr.zeroQ 25 (0, 0)) := Tx.blk_later (Tx.blk_later KR2.out hb3) (Tx.newb w3 _); have hF3 : Qr.Fr g w (w3.alloc (.cells #[.int .u8 N, .string ⟨nt.toArray⟩, .bool ng] 77)) := (hF2.trans (.of_below hb3)).alloc _; have hP3 : Qr.PS g l r (w3.alloc (.cells #[.int .u8 N, .string ⟨nt.toArray⟩, .bool ng] 77)) := (hP2.below hb3).below (Tx.newb w3 _); have e30 : (w3.alloc (.cells #[.int .u8 N, .string ⟨nt.toArray⟩, .bool ng] 77)).cell? ⟨w2.heap.size, 0, none⟩ = some (.int .u8 K) := (Tx.blk kT3).1 0; have eg3 : (w3.alloc (.cells #[.int .u8 N, .string ⟨nt.toArray⟩, .bool ng] 77)).cell? ⟨g, 1, none⟩ = some (.int .i64 (A : Int)) := (Tx.blk kg3).1 1; have fg3 : ∀ i, (w3.alloc (.cells #[.int .u8 N, .string ⟨nt.toArray⟩, .bool ng] 77)).frozen? ⟨g, i, none⟩ = false := (Tx.blk kg3).2.1; have KT3 := Lib.hid kT3; have KG3 := Lib.hid kg3; have KR3 := Lib.hid kR3; clear kT3 kg3 kR3)
      | (go_at_call 76; refine (L0 _ hP1).mono ?_; rintro e w2 ⟨rfl, hb2⟩; have s2 := hb2.size; have kT2 : (w2.alloc (.cells #[.int .u8 K, .string ⟨tt.toArray⟩, .bool tg] 77)).heap[w2.heap.size]? = some (.cells #[.int .u8 K, .string ⟨tt.toArray⟩, .bool tg] 77 (0, 0)) := heap_alloc_new _ _; have kg2 : (w2.alloc (.cells #[.int .u8 K, .string ⟨tt.toArray⟩, .bool tg] 77)).heap[g]? = some (.cells #[.slice ta l.length tc, .int .i64 (A : Int)] 44 (0, 0)) := Tx.blk_later (Tx.blk_later KG1.out hb2) (Tx.newb w2 _); have kR2 : (w2.alloc (.cells #[.int .u8 K, .string ⟨tt.toArray⟩, .bool tg] 77)).heap[w.heap.size]? = some (.cells Qr.zeroQ 25 (0, 0)) := Tx.blk_later (Tx.blk_later KR1.out hb2) (Tx.newb w2 _); have hF2 : Qr.Fr g w (w2.alloc (.cells #[.int .u8 K, .string ⟨tt.toArray⟩, .bool tg] 77)) := (hF1.trans (.of_below hb2)).alloc _; have hP2 : Qr.PS g l r (w2.alloc (.cells #[.int .u8 K, .string ⟨tt.toArray⟩, .bool tg] 77)) := (hP1.below hb2).below (Tx.newb w2 _); have eg : (w2.alloc (.cells #[.int .u8 K, .string ⟨tt.toArray⟩, .bool tg] 77)).cell? ⟨g, 1, none⟩ = some (.int .i64 (A : Int)) := (Tx.blk kg2).1 1; have fg : ∀ i, (w2.alloc (.cells #[.int .u8 K, .string ⟨tt.toArray⟩, .bool tg] 77)).frozen? ⟨g, i, none⟩ = false := (Tx.blk kg2).2.1; have KT2 := Lib.hid kT2; have KG2 := Lib.hid kg2; have KR2 := Lib.hid kR2; clear kT2 kg2 kR2)
      | (go_at_call 75; refine (begins_c g l r _ hP0).mono ?_; rintro e w1 ⟨rfl, hb1⟩; rw [HB.out]; have hP1 := hP0.below hb1; have s1 : w.heap.size < w1.heap.size := (by have := hb1.size; simp at this; omega); have KG1 := Lib.hid (Tx.blk_later (Tx.blk_later KG.out (Tx.newb w _)) hb1); have KR1 : Hid (w1.heap[w.heap.size]? = some (.cells Qr.zeroQ 25 (0, 0))) := Lib.hid (Tx.blk_later (heap_alloc_new w _) hb1); have hF1 : Qr.Fr g w w1 := ((Qr.Fr.refl g w).alloc _).trans (.of_below hb1)))
    refine bodyPost_ret (v := .agg #[.int .i64 qo, .int .i64 qf, .slice qsa qsn qsc, .int .i64 qa, .int .i64 qb, .slice qka qkn qkc]) (by simp [results, Tryz.results87, go_sem, z0, z1, z2, z3, z4, z5]) rfl ⟨⟨qo, qf, qsa, qsn, qsc, qa, qb, qka, qkn, qkc⟩, rfl, (hq4.kp (Qr.Kp.put6 (Qr.Kp.refl _ _) (by simp; omega) _ _ _ _ _ _)).mono (by simp; omega), Qr.PS.of' hP4 KP4.out (Tx.put6 (Below.refl _ _) (by omega) _ _ _ _ _ _) (List.suffix_refl _) (Qr.far6 KP4.out (show g ≠ w.heap.size by omega) _ _ _ _ _ _) rfl, Qr.Fr.put6 hF4' (Nat.le_refl _) _ _ _ _ _ _⟩
  · clear n40 h40
    go_enter Tryz.func87, Tryz.ntmps87
    go_wp2_with (first
      | (go_at_call 96; refine (term_c g l r _ hP3 HW.out).mono ?_; rintro e w4 h4; rw [HX.out] at h4; obtain ⟨qo, qf, qa, qb, qsa, qsn, qsc, qka, qkn, qkc, rfl, hq4, hP4, hF4⟩ := h4.get; have s4 := hF4.size; simp only [World.size_alloc] at s4; have kR4 := (hF4.block w.heap.size (by omega) (by first | omega | (simp; omega))).trans KR3.out; have hF4' := hF3.trans hF4; have z0 : w4.cell? ⟨w.heap.size, 0, none⟩ = some (.int .i64 0) := (Tx.blk kR4).1 0; have z1 : w4.cell? ⟨w.heap.size, 1, none⟩ = some (.int .i64 0) := (Tx.blk kR4).1 1; have z2 : w4.cell? ⟨w.heap.size, 2, none⟩ = some (.slice none 0 0) := (Tx.blk kR4).1 2; have z3 : w4.cell? ⟨w.heap.size, 3, none⟩ = some (.int .i64 0) := (Tx.blk kR4).1 3; have z4 : w4.cell? ⟨w.heap.size, 4, none⟩ = some (.int .i64 0) := (Tx.blk kR4).1 4; have z5 : w4.cell? ⟨w.heap.size, 5, none⟩ = some (.slice none 0 0) := (Tx.blk kR4).1 5; have fr9 : ∀ i, w4.frozen? ⟨w.heap.size, i, none⟩ = false := (Tx.blk kR4).2.1; obtain ⟨ta4, tc4, kg4, _, _⟩ := hP4.blk; have KP4 := Lib.hid kg4; clear kg4 kR4)
      | (go_at_call 76; refine (L1 _ hP2).mono ?_; rintro e w3 ⟨rfl, hb3⟩; have s3 := hb3.size; simp only [World.size_alloc] at s3; have kT3 : (w3.alloc (.cells #[.int .u8 N, .string ⟨nt.toArray⟩, .bool ng] 77)).heap[w2.heap.size]? = some (.cells #[.int .u8 114, .string ⟨tt.toArray⟩, .bool tg] 77 (0, 0)) := Tx.blk_later (Tx.blk_later KT2.out hb3) (Tx.newb w3 _); have kg3 : (w3.alloc (.cells #[.int .u8 N, .string ⟨nt.toArray⟩, .bool ng] 77)).heap[g]? = some (.cells #[.slice ta l.length tc, .int .i64 (A : Int)] 44 (0, 0)) := Tx.blk_later (Tx.blk_later KG2.out hb3) (Tx.newb w3 _); have kR3 : (w3.alloc (.cells #[.int .u8 N, .string ⟨nt.toArray⟩, .bool ng] 77)).heap[w.heap.size]? = some (.cells Qr.zeroQ 25 (0, 0)) := Tx.blk_later (Tx.blk_later KR2.out hb3) (Tx.newb w3 _); have hF3 : Qr.Fr g w (w3.alloc (.cells #[.int .u8 N, .string ⟨nt.toArray⟩, .bool ng] 77)) := (hF2.trans (.of_below hb3)).alloc _; have hP3 : Qr.PS g l r (w3.alloc (.cells #[.int .u8 N, .string ⟨nt.toArray⟩, .bool ng] 77)) := (hP2.below hb3).below (Tx.newb w3 _); have e30 : (w3.alloc (.cells #[.int .u8 N, .string ⟨nt.toArray⟩, .bool ng] 77)).cell? ⟨w2.heap.size, 0, none⟩ = some (.int .u8 114) := (Tx.blk kT3).1 0; have eg3 : (w3.alloc (.cells #[.int .u8 N, .string ⟨nt.toArray⟩, .bool ng] 77)).cell? ⟨g, 1, none⟩ = some (.int .i64 (A : Int)) := (Tx.blk kg3).1 1; have fg3 : ∀ i, (w3.alloc (.cells #[.int .u8 N, .string ⟨nt.toArray⟩, .bool ng] 77)).frozen? ⟨g, i, none⟩ = false := (Tx.blk kg3).2.1; have KT3 := Lib.hid kT3; have KG3 := Lib.hid kg3; have KR3 := Lib.hid kR3; clear kT3 kg3 kR3)
      | (go_at_call 76; refine (L0 _ hP1).mono ?_; rintro e w2 ⟨rfl, hb2⟩; have s2 := hb2.size; have kT2 : (w2.alloc (.cells #[.int .u8 114, .string ⟨tt.toArray⟩, .bool tg] 77)).heap[w2.heap.size]? = some (.cells #[.int .u8 114, .string ⟨tt.toArray⟩, .bool tg] 77 (0, 0)) := heap_alloc_new _ _; have kg2 : (w2.alloc (.cells #[.int .u8 114, .string ⟨tt.toArray⟩, .bool tg] 77)).heap[g]? = some (.cells #[.slice ta l.length tc, .int .i64 (A : Int)] 44 (0, 0)) := Tx.blk_later (Tx.blk_later KG1.out hb2) (Tx.newb w2 _); have kR2 : (w2.alloc (.cells #[.int .u8 114, .string ⟨tt.toArray⟩, .bool tg] 77)).heap[w.heap.size]? = some (.cells Qr.zeroQ 25 (0, 0)) := Tx.blk_later (Tx.blk_later KR1.out hb2) (Tx.newb w2 _); have hF2 : Qr.Fr g w (w2.alloc (.cells #[.int .u8 114, .string ⟨tt.toArray⟩, .bool tg] 77)) := (hF1.trans (.of_below hb2)).alloc _; have hP2 : Qr.PS g l r (w2.alloc (.cells #[.int .u8 114, .string ⟨tt.toArray⟩, .bool tg] 77)) := (hP1.below hb2).below (Tx.newb w2 _); have eg : (w2.alloc (.cells #[.int .u8 114, .string ⟨tt.toArray⟩, .bool tg] 77)).cell? ⟨g, 1, none⟩ = some (.int .i64 (A : Int)) := (Tx.blk kg2).1 1; have fg : ∀ i, (w2.alloc (.cells #[.int .u8 114, .string ⟨tt.toArray⟩, .bool tg] 77)).frozen? ⟨g, i, none⟩ = false := (Tx.blk kg2).2.1; have KT2 := Lib.hid kT2; have KG2 := Lib.hid kg2; have KR2 := Lib.hid kR2; clear kT2 kg2 kR2)
      | (go_at_call 75; refine (begins_c g l r _ hP0).mono ?_; rintro e w1 ⟨rfl, hb1⟩; rw [HB.out]; have hP1 := hP0.below hb1; have s1 : w.heap.size < w1.heap.size := (by have := hb1.size; simp at this; omega); have KG1 := Lib.hid (Tx.blk_later (Tx.blk_later KG.out (Tx.newb w _)) hb1); have KR1 : Hid (w1.heap[w.heap.size]? = some (.cells Qr.zeroQ 25 (0, 0))) := Lib.hid (Tx.blk_later (heap_alloc_new w _) hb1); have hF1 : Qr.Fr g w w1 := ((Qr.Fr.refl g w).alloc _).trans (.of_below hb1)))
    refine bodyPost_ret (v := .agg #[.int .i64 qo, .int .i64 qf, .slice qsa qsn qsc, .int .i64 qa, .int .i64 qb, .slice qka qkn qkc]) (by simp [results, Tryz.results87, go_sem, z0, z1, z2, z3, z4, z5]) rfl ⟨⟨qo, qf, qsa, qsn, qsc, qa, qb, qka, qkn, qkc⟩, rfl, (hq4.kp (Qr.Kp.put6 (Qr.Kp.refl _ _) (by simp; omega) _ _ _ _ _ _)).mono (by simp; omega), Qr.PS.of' hP4 KP4.out (Tx.put6 (Below.refl _ _) (by omega) _ _ _ _ _ _) (List.suffix_refl _) (Qr.far6 KP4.out (show g ≠ w.heap.size by omega) _ _ _ _ _ _) rfl, Qr.Fr.put6 hF4' (Nat.le_refl _) _ _ _ _ _ _⟩
  · clear n40 h40
    go_enter Tryz.func87, Tryz.ntmps87
    go_wp2_with (first
      | (go_at_call 96; refine (term_c g l r _ hP3 HW.out).mono ?_; rintro e w4 h4; rw [HX.out] at h4; obtain ⟨qo, qf, qa, qb, qsa, qsn, qsc, qka, qkn, qkc, rfl, hq4, hP4, hF4⟩ := h4.get; have s4 := hF4.size; simp only [World.size_alloc] at s4; have kR4 := (hF4.block w.heap.size (by omega) (by first | omega | (simp; omega))).trans KR3.out; have hF4' := hF3.trans hF4; have z0 : w4.cell? ⟨w.heap.size, 0, none⟩ = some (.int .i64 0) := (Tx.blk kR4).1 0; have z1 : w4.cell? ⟨w.heap.size, 1, none⟩ = some (.int .i64 0) := (Tx.blk kR4).1 1; have z2 : w4.cell? ⟨w.heap.size, 2, none⟩ = some (.slice none 0 0) := (Tx.blk kR4).1 2; have z3 : w4.cell? ⟨w.heap.size, 3, none⟩ = some (.int .i64 0) := (Tx.blk kR4).1 3; have z4 : w4.cell? ⟨w.heap.size, 4, none⟩ = some (.int .i64 0) := (Tx.blk kR4).1 4; have z5 : w4.cell? ⟨w.heap.size, 5, none⟩ = some (.slice none 0 0) := (Tx.blk kR4).1 5; have fr9 : ∀ i, w4.frozen? ⟨w.heap.size, i, none⟩ = false := (Tx.blk kR4).2.1; obtain ⟨ta4, tc4, kg4, _, _⟩ := hP4.blk; have KP4 := Lib.hid kg4; clear kg4 kR4)
      | (go_at_call 76; refine (L1 _ hP2).mono ?_; rintro e w3 ⟨rfl, hb3⟩; have s3 := hb3.size; simp only [World.size_alloc] at s3; have kT3 : (w3.alloc (.cells #[.int .u8 58, .string ⟨nt.toArray⟩, .bool false] 77)).heap[w2.heap.size]? = some (.cells #[.int .u8 114, .string ⟨tt.toArray⟩, .bool tg] 77 (0, 0)) := Tx.blk_later (Tx.blk_later KT2.out hb3) (Tx.newb w3 _); have kg3 : (w3.alloc (.cells #[.int .u8 58, .string ⟨nt.toArray⟩, .bool false] 77)).heap[g]? = some (.cells #[.slice ta l.length tc, .int .i64 (A : Int)] 44 (0, 0)) := Tx.blk_later (Tx.blk_later KG2.out hb3) (Tx.newb w3 _); have kR3 : (w3.alloc (.cells #[.int .u8 58, .string ⟨nt.toArray⟩, .bool false] 77)).heap[w.heap.size]? = some (.cells Qr.zeroQ 25 (0, 0)) := Tx.blk_later (Tx.blk_later KR2.out hb3) (Tx.newb w3 _); have hF3 : Qr.Fr g w (w3.alloc (.cells #[.int .u8 58, .string ⟨nt.toArray⟩, .bool false] 77)) := (hF2.trans (.of_below hb3)).alloc _; have hP3 : Qr.PS g l r (w3.alloc (.cells #[.int .u8 58, .string ⟨nt.toArray⟩, .bool false] 77)) := (hP2.below hb3).below (Tx.newb w3 _); have e30 : (w3.alloc (.cells #[.int .u8 58, .string ⟨nt.toArray⟩, .bool false] 77)).cell? ⟨w2.heap.size, 0, none⟩ = some (.int .u8 114) := (Tx.blk kT3).1 0; have eg3 : (w3.alloc (.cells #[.int .u8 58, .string ⟨nt.toArray⟩, .bool false] 77)).cell? ⟨g, 1, none⟩ = some (.int .i64 (A : Int)) := (Tx.blk kg3).1 1; have fg3 : ∀ i, (w3.alloc (.cells #[.int .u8 58, .string ⟨nt.toArray⟩, .bool false] 77)).frozen? ⟨g, i, none⟩ = false := (Tx.blk kg3).2.1; have KT3 := Lib.hid kT3; have KG3 := Lib.hid kg3; have KR3 := Lib.hid kR3; clear kT3 kg3 kR3)
      | (go_at_call 76; refine (L0 _ hP1).mono ?_; rintro e w2 ⟨rfl, hb2⟩; have s2 := hb2.size; have kT2 : (w2.alloc (.cells #[.int .u8 114, .string ⟨tt.toArray⟩, .bool tg] 77)).heap[w2.heap.size]? = some (.cells #[.int .u8 114, .string ⟨tt.toArray⟩, .bool tg] 77 (0, 0)) := heap_alloc_new _ _; have kg2 : (w2.alloc (.cells #[.int .u8 114, .string ⟨tt.toArray⟩, .bool tg] 77)).heap[g]? = some (.cells #[.slice ta l.length tc, .int .i64 (A : Int)] 44 (0, 0)) := Tx.blk_later (Tx.blk_later KG1.out hb2) (Tx.newb w2 _); have kR2 : (w2.alloc (.cells #[.int .u8 114, .string ⟨tt.toArray⟩, .bool tg] 77)).heap[w.heap.size]? = some (.cells Qr.zeroQ 25 (0, 0)) := Tx.blk_later (Tx.blk_later KR1.out hb2) (Tx.newb w2 _); have hF2 : Qr.Fr g w (w2.alloc (.cells #[.int .u8 114, .string ⟨tt.toArray⟩, .bool tg] 77)) := (hF1.trans (.of_below hb2)).alloc _; have hP2 : Qr.PS g l r (w2.alloc (.cells #[.int .u8 114, .string ⟨tt.toArray⟩, .bool tg] 77)) := (hP1.below hb2).below (Tx.newb w2 _); have eg : (w2.alloc (.cells #[.int .u8 114, .string ⟨tt.toArray⟩, .bool tg] 77)).cell? ⟨g, 1, none⟩ = some (.int .i64 (A : Int)) := (Tx.blk kg2).1 1; have fg : ∀ i, (w2.alloc (.cells #[.int .u8 114, .string ⟨tt.toArray⟩, .bool tg] 77)).frozen? ⟨g, i, none⟩ = false := (Tx.blk kg2).2.1; have KT2 := Lib.hid kT2; have KG2 := Lib.hid kg2; have KR2 := Lib.hid kR2; clear kT2 kg2 kR2)
      | (go_at_call 75; refine (begins_c g l r _ hP0).mono ?_; rintro e w1 ⟨rfl, hb1⟩; rw [HB.out]; have hP1 := hP0.below hb1; have s1 : w.heap.size < w1.heap.size := (by have := hb1.size; simp at this; omega); have KG1 := Lib.hid (Tx.blk_later (Tx.blk_later KG.out (Tx.newb w _)) hb1); have KR1 : Hid (w1.heap[w.heap.size]? = some (.cells Qr.zeroQ 25 (0, 0))) := Lib.hid (Tx.blk_later (heap_alloc_new w _) hb1); have hF1 : Qr.Fr g w w1 := ((Qr.Fr.refl g w).alloc _).trans (.of_below hb1)))
    refine bodyPost_ret (v := .agg #[.int .i64 qo, .int .i64 qf, .slice qsa qsn qsc, .int .i64 qa, .int .i64 qb, .slice qka qkn qkc]) (by simp [results, Tryz.results87, go_sem, z0, z1, z2, z3, z4, z5]) rfl ⟨⟨qo, qf, qsa, qsn, qsc, qa, qb, qka, qkn, qkc⟩, rfl, (hq4.kp (Qr.Kp.put6 (Qr.Kp.refl _ _) (by simp; omega) _ _ _ _ _ _)).mono (by simp; omega), Qr.PS.of' hP4 KP4.out (Tx.put6 (Below.refl _ _) (by omega) _ _ _ _ _ _) (List.suffix_refl _) (Qr.far6 KP4.out (show g ≠ w.heap.size by omega) _ _ _ _ _ _) rfl, Qr.Fr.put6 hF4' (Nat.le_refl _) _ _ _ _ _ _⟩

set_option maxHeartbeats 1600000 in
theorem prim_unglued (g : Nat) (l r : List Qr.Tok) (w : World) (hP : Qr.PS g l r w) (kk : UInt8) (tt : List UInt8) (tg : Bool) (K : Int) (ht : Qr.lk r = ⟨kk, tt, tg⟩) (hK : (kk.toNat : Int) = K) (hb : Qr.begins r = true) (nk : UInt8) (nt : List UInt8) (ng : Bool) (N : Int) (hn : Qr.lk1 r = ⟨nk, nt, ng⟩) (hN : (nk.toNat : Int) = N) (hK4 : K = 114) (hN5 : N = 58) (hg1 : ng = true) (k2 : UInt8) (t2 : List UInt8) (g2 : Bool) (K2 : Int) (ht2 : Qr.lk r.tail.tail = ⟨k2, t2, g2⟩) (hK2 : (k2.toNat : Int) = K2) (hg2 : g2 = false) :
    Calls Tryz.prog 87 #[.pointer (some ⟨g, 0, none⟩)] w fun e w' => e = .panicked [{ v := Qr.wrongP, recovered := false }] ∧ Qr.Fr g w w' := by
  have hsl := hP.suf.length_le
  have hll := hP.len
  have hgl := hP.lt
  obtain ⟨ta, tc, kg, _, _⟩ := hP.blk
  obtain ⟨A, hA⟩ : ∃ A, l.length - r.length = A := ⟨_, rfl⟩
  rw [hA] at kg
  have hP0 := hP.below (Tx.newb w (.cells Qr.zeroQ 25))
  have KG := Lib.hid kg; clear kg
  have HPP := Lib.hid hP; clear hP
  have hk1 := Qr.begins_ne hb
  have hte := Qr.tail_eats hk1
  have L0 := fun w h => look0 (K := K) (w := w) (g := g) (l := l) ht hK h
  have HB := Lib.hid hb; clear hb
  have HTE := Lib.hid hte; clear hk1
  have hA1 : (A : Int) + 1 = ((l.length - r.tail.length : Nat) : Int) := by have := hte.2; rw [List.length_tail] at this ⊢; omega
  have hw1 := IntWalk.i64_in ((A : Int) + 1) ⟨by omega, by omega⟩
  have HA1 := Lib.hid hA1; clear hA1 hte ht hK
  subst hK4; subst hN5; subst hg1
  have hk2 : (Qr.lk r.tail).k ≠ 0 := by rw [show Qr.lk r.tail = ⟨nk, nt, true⟩ from hn]; intro h0; have h0' : nk = 0 := h0; rw [h0'] at hN; simp at hN
  have htt := (Qr.tail_eats hk2).1.trans HTE.out.1
  have hA2 : (A : Int) + 2 = ((l.length - r.tail.tail.length : Nat) : Int) := by
    have h1 := HA1.out
    have h2 := (Qr.tail_eats hk2).2
    have h3 := HTE.out.1.length_le
    rw [List.length_tail (l := r.tail)] at h2 ⊢
    omega
  have hw2 := IntWalk.i64_in ((A : Int) + 2) ⟨by omega, by omega⟩
  have HA2 := Lib.hid hA2
  have HTT : Hid (r.tail.tail <:+ r ∧ True) := Lib.hid ⟨htt, trivial⟩
  have L1 := fun w h => look1 (K := 58) (w := w) (g := g) (l := l) hn hN h
  have L2 := fun w h => look0 (r := r.tail.tail) (K := K2) (w := w) (g := g) (l := l) ht2 hK2 h
  clear hN hn ht2 hK2 hA2 htt hk2
  subst hg2
  go_enter Tryz.func87, Tryz.ntmps87
  go_wp2_with (first
    | (go_at_call 76; refine (L2 _ hP4).mono ?_; rintro e w5 ⟨rfl, hb5⟩; have s5 := hb5.size; have KT5 := Lib.hid (Tx.blk_later KT4.out hb5); have KR5 := Lib.hid (Tx.blk_later KR4.out hb5); have hF5 := hF4.trans (.of_below hb5); have hP5 := hP4.below hb5; clear eg fg eg3 fg3 e30)
    | (go_at_call 76; refine (L1 _ hP2).mono ?_; rintro e w3 ⟨rfl, hb3⟩; have s3 := hb3.size; simp only [World.size_alloc] at s3; have kT3 : (w3.alloc (.cells #[.int .u8 58, .string ⟨nt.toArray⟩, .bool true] 77)).heap[w2.heap.size]? = some (.cells #[.int .u8 114, .string ⟨tt.toArray⟩, .bool tg] 77 (0, 0)) := Tx.blk_later (Tx.blk_later KT2.out hb3) (Tx.newb w3 _); have kg3 : (w3.alloc (.cells #[.int .u8 58, .string ⟨nt.toArray⟩, .bool true] 77)).heap[g]? = some (.cells #[.slice ta l.length tc, .int .i64 (A : Int)] 44 (0, 0)) := Tx.blk_later (Tx.blk_later KG2.out hb3) (Tx.newb w3 _); have kR3 : (w3.alloc (.cells #[.int .u8 58, .string ⟨nt.toArray⟩, .bool true] 77)).heap[w.heap.size]? = some (.cells Qr.zeroQ 25 (0, 0)) := Tx.blk_later (Tx.blk_later KR2.out hb3) (Tx.newb w3 _); have hF3 : Qr.Fr g w (w3.alloc (.cells #[.int .u8 58, .string ⟨nt.toArray⟩, .bool true] 77)) := (hF2.trans (.of_below hb3)).alloc _; have hP3 : Qr.PS g l r (w3.alloc (.cells #[.int .u8 58, .string ⟨nt.toArray⟩, .bool true] 77)) := (hP2.below hb3).below (Tx.newb w3 _); have e30 : (w3.alloc (.cells #[.int .u8 58, .string ⟨nt.toArray⟩, .bool true] 77)).cell? ⟨w2.heap.size, 0, none⟩ = some (.int .u8 114) := (Tx.blk kT3).1 0; have eg3 : (w3.alloc (.cells #[.int .u8 58, .string ⟨nt.toArray⟩, .bool true] 77)).cell? ⟨g, 1, none⟩ = some (.int .i64 (A : Int)) := (Tx.blk kg3).1 1; have fg3 : ∀ i, (w3.alloc (.cells #[.int .u8 58, .string ⟨nt.toArray⟩, .bool true] 77)).frozen? ⟨g, i, none⟩ = false := (Tx.blk kg3).2.1; have KT3 := Lib.hid kT3; have KG3 := Lib.hid kg3; have KR3 := Lib.hid kR3; clear kT3 kg3 kR3; have kg4 : ((w3.alloc (.cells #[.int .u8 58, .string ⟨nt.toArray⟩, .bool true] 77)).setCell ⟨g, 1, none⟩ (.int .i64 ((A : Int) + 2))).heap[g]? = some (.cells #[.slice ta l.length tc, .int .i64 ((A : Int) + 2)] 44 (0, 0)) := Qr.blk_set1 KG3.out _; have hF4 : Qr.Fr g w ((w3.alloc (.cells #[.int .u8 58, .string ⟨nt.toArray⟩, .bool true] 77)).setCell ⟨g, 1, none⟩ (.int .i64 ((A : Int) + 2))) := hF3.set rfl _; have hP4 : Qr.PS g l r.tail.tail ((w3.alloc (.cells #[.int .u8 58, .string ⟨nt.toArray⟩, .bool true] 77)).setCell ⟨g, 1, none⟩ (.int .i64 ((A : Int) + 2))) := Qr.PS.of HPP.out KG.out hF4 HTT.out.1 kg4 HA2.out; have kR4 := Tx.blk_far (a := ⟨g, 1, none⟩) KR3.out (show w.heap.size ≠ g by omega) (.int .i64 ((A : Int) + 2)); have kT4 := Tx.blk_far (a := ⟨g, 1, none⟩) KT3.out (show w2.heap.size ≠ g by omega) (.int .i64 ((A : Int) + 2)); have s4 : ((w3.alloc (.cells #[.int .u8 58, .string ⟨nt.toArray⟩, .bool true] 77)).setCell ⟨g, 1, none⟩ (.int .i64 ((A : Int) + 2))).heap.size = w3.heap.size + 1 := (by simp [World.setCell]); have KR4 := Lib.hid kR4; have KT4 := Lib.hid kT4; clear kg4 kR4 kT4)
    | (go_at_call 76; refine (L0 _ hP1).mono ?_; rintro e w2 ⟨rfl, hb2⟩; have s2 := hb2.size; have kT2 : (w2.alloc (.cells #[.int .u8 114, .string ⟨tt.toArray⟩, .bool tg] 77)).heap[w2.heap.size]? = some (.cells #[.int .u8 114, .string ⟨tt.toArray⟩, .bool tg] 77 (0, 0)) := heap_alloc_new _ _; have kg2 : (w2.alloc (.cells #[.int .u8 114, .string ⟨tt.toArray⟩, .bool tg] 77)).heap[g]? = some (.cells #[.slice ta l.length tc, .int .i64 (A : Int)] 44 (0, 0)) := Tx.blk_later (Tx.blk_later KG1.out hb2) (Tx.newb w2 _); have kR2 : (w2.alloc (.cells #[.int .u8 114, .string ⟨tt.toArray⟩, .bool tg] 77)).heap[w.heap.size]? = some (.cells Qr.zeroQ 25 (0, 0)) := Tx.blk_later (Tx.blk_later KR1.out hb2) (Tx.newb w2 _); have hF2 : Qr.Fr g w (w2.alloc (.cells #[.int .u8 114, .string ⟨tt.toArray⟩, .bool tg] 77)) := (hF1.trans (.of_below hb2)).alloc _; have hP2 : Qr.PS g l r (w2.alloc (.cells #[.int .u8 114, .string ⟨tt.toArray⟩, .bool tg] 77)) := (hP1.below hb2).below (Tx.newb w2 _); have eg : (w2.alloc (.cells #[.int .u8 114, .string ⟨tt.toArray⟩, .bool tg] 77)).cell? ⟨g, 1, none⟩ = some (.int .i64 (A : Int)) := (Tx.blk kg2).1 1; have fg : ∀ i, (w2.alloc (.cells #[.int .u8 114, .string ⟨tt.toArray⟩, .bool tg] 77)).frozen? ⟨g, i, none⟩ = false := (Tx.blk kg2).2.1; have KT2 := Lib.hid kT2; have KG2 := Lib.hid kg2; have KR2 := Lib.hid kR2; clear kT2 kg2 kR2)
    | (go_at_call 75; refine (begins_c g l r _ hP0).mono ?_; rintro e w1 ⟨rfl, hb1⟩; rw [HB.out]; have hP1 := hP0.below hb1; have s1 : w.heap.size < w1.heap.size := (by have := hb1.size; simp at this; omega); have KG1 := Lib.hid (Tx.blk_later (Tx.blk_later KG.out (Tx.newb w _)) hb1); have KR1 : Hid (w1.heap[w.heap.size]? = some (.cells Qr.zeroQ 25 (0, 0))) := Lib.hid (Tx.blk_later (heap_alloc_new w _) hb1); have hF1 : Qr.Fr g w w1 := ((Qr.Fr.refl g w).alloc _).trans (.of_below hb1)))
  exact ⟨rfl, rfl, hF5⟩

set_option maxHeartbeats 1600000 in
theorem prim_nobeg (g : Nat) (l r : List Qr.Tok) (w : World) (hP : Qr.PS g l r w) (kk : UInt8) (tt : List UInt8) (tg : Bool) (K : Int) (ht : Qr.lk r = ⟨kk, tt, tg⟩) (hK : (kk.toNat : Int) = K) (hb : Qr.begins r = true) (nk : UInt8) (nt : List UInt8) (ng : Bool) (N : Int) (hn : Qr.lk1 r = ⟨nk, nt, ng⟩) (hN : (nk.toNat : Int) = N) (hK4 : K = 114) (hN5 : N = 58) (hg1 : ng = true) (k2 : UInt8) (t2 : List UInt8) (g2 : Bool) (K2 : Int) (ht2 : Qr.lk r.tail.tail = ⟨k2, t2, g2⟩) (hK2 : (k2.toNat : Int) = K2) (hg2 : g2 = true) (hb2 : Qr.begins r.tail.tail = false) :
    Calls Tryz.prog 87 #[.pointer (some ⟨g, 0, none⟩)] w fun e w' => e = .panicked [{ v := Qr.wrongP, recovered := false }] ∧ Qr.Fr g w w' := by
  have hsl := hP.suf.length_le
  have hll := hP.len
  have hgl := hP.lt
  obtain ⟨ta, tc, kg, _, _⟩ := hP.blk
  obtain ⟨A, hA⟩ : ∃ A, l.length - r.length = A := ⟨_, rfl⟩
  rw [hA] at kg
  have hP0 := hP.below (Tx.newb w (.cells Qr.zeroQ 25))
  have KG := Lib.hid kg; clear kg
  have HPP := Lib.hid hP; clear hP
  have hk1 := Qr.begins_ne hb
  have hte := Qr.tail_eats hk1
  have L0 := fun w h => look0 (K := K) (w := w) (g := g) (l := l) ht hK h
  have HB := Lib.hid hb; clear hb
  have HTE := Lib.hid hte; clear hk1
  have hA1 : (A : Int) + 1 = ((l.length - r.tail.length : Nat) : Int) := by have := hte.2; rw [List.length_tail] at this ⊢; omega
  have hw1 := IntWalk.i64_in ((A : Int) + 1) ⟨by omega, by omega⟩
  have HA1 := Lib.hid hA1; clear hA1 hte ht hK
  subst hK4; subst hN5; subst hg1
  have hk2 : (Qr.lk r.tail).k ≠ 0 := by rw [show Qr.lk r.tail = ⟨nk, nt, true⟩ from hn]; intro h0; have h0' : nk = 0 := h0; rw [h0'] at hN; simp at hN
  have htt := (Qr.tail_eats hk2).1.trans HTE.out.1
  have hA2 : (A : Int) + 2 = ((l.length - r.tail.tail.length : Nat) : Int) := by
    have h1 := HA1.out
    have h2 := (Qr.tail_eats hk2).2
    have h3 := HTE.out.1.length_le
    rw [List.length_tail (l := r.tail)] at h2 ⊢
    omega
  have hw2 := IntWalk.i64_in ((A : Int) + 2) ⟨by omega, by omega⟩
  have HA2 := Lib.hid hA2
  have HTT : Hid (r.tail.tail <:+ r ∧ True) := Lib.hid ⟨htt, trivial⟩
  have L1 := fun w h => look1 (K := 58) (w := w) (g := g) (l := l) hn hN h
  have L2 := fun w h => look0 (r := r.tail.tail) (K := K2) (w := w) (g := g) (l := l) ht2 hK2 h
  clear hN hn ht2 hK2 hA2 htt hk2
  subst hg2
  have HB2 := Lib.hid hb2; clear hb2
  go_enter Tryz.func87, Tryz.ntmps87
  go_wp2_with (first
    | (go_at_call 75; refine (begins_c g l _ _ hP5).mono ?_; rintro e w6 ⟨rfl, hb6⟩; have s6 := hb6.size; have KT6 := Lib.hid (Tx.blk_later KT5.out hb6); have KR6 := Lib.hid (Tx.blk_later KR5.out hb6); have hF6 := hF5.trans (.of_below hb6); have hP6 := hP5.below hb6; rw [HB2.out])
    | (go_at_call 76; refine (L2 _ hP4).mono ?_; rintro e w5 ⟨rfl, hb5⟩; have s5 := hb5.size; have KT5 := Lib.hid (Tx.blk_later KT4.out hb5); have KR5 := Lib.hid (Tx.blk_later KR4.out hb5); have hF5 := hF4.trans (.of_below hb5); have hP5 := hP4.below hb5; clear eg fg eg3 fg3 e30)
    | (go_at_call 76; refine (L1 _ hP2).mono ?_; rintro e w3 ⟨rfl, hb3⟩; have s3 := hb3.size; simp only [World.size_alloc] at s3; have kT3 : (w3.alloc (.cells #[.int .u8 58, .string ⟨nt.toArray⟩, .bool true] 77)).heap[w2.heap.size]? = some (.cells #[.int .u8 114, .string ⟨tt.toArray⟩, .bool tg] 77 (0, 0)) := Tx.blk_later (Tx.blk_later KT2.out hb3) (Tx.newb w3 _); have kg3 : (w3.alloc (.cells #[.int .u8 58, .string ⟨nt.toArray⟩, .bool true] 77)).heap[g]? = some (.cells #[.slice ta l.length tc, .int .i64 (A : Int)] 44 (0, 0)) := Tx.blk_later (Tx.blk_later KG2.out hb3) (Tx.newb w3 _); have kR3 : (w3.alloc (.cells #[.int .u8 58, .string ⟨nt.toArray⟩, .bool true] 77)).heap[w.heap.size]? = some (.cells Qr.zeroQ 25 (0, 0)) := Tx.blk_later (Tx.blk_later KR2.out hb3) (Tx.newb w3 _); have hF3 : Qr.Fr g w (w3.alloc (.cells #[.int .u8 58, .string ⟨nt.toArray⟩, .bool true] 77)) := (hF2.trans (.of_below hb3)).alloc _; have hP3 : Qr.PS g l r (w3.alloc (.cells #[.int .u8 58, .string ⟨nt.toArray⟩, .bool true] 77)) := (hP2.below hb3).below (Tx.newb w3 _); have e30 : (w3.alloc (.cells #[.int .u8 58, .string ⟨nt.toArray⟩, .bool true] 77)).cell? ⟨w2.heap.size, 0, none⟩ = some (.int .u8 114) := (Tx.blk kT3).1 0; have eg3 : (w3.alloc (.cells #[.int .u8 58, .string ⟨nt.toArray⟩, .bool true] 77)).cell? ⟨g, 1, none⟩ = some (.int .i64 (A : Int)) := (Tx.blk kg3).1 1; have fg3 : ∀ i, (w3.alloc (.cells #[.int .u8 58, .string ⟨nt.toArray⟩, .bool true] 77)).frozen? ⟨g, i, none⟩ = false := (Tx.blk kg3).2.1; have KT3 := Lib.hid kT3; have KG3 := Lib.hid kg3; have KR3 := Lib.hid kR3; clear kT3 kg3 kR3; have kg4 : ((w3.alloc (.cells #[.int .u8 58, .string ⟨nt.toArray⟩, .bool true] 77)).setCell ⟨g, 1, none⟩ (.int .i64 ((A : Int) + 2))).heap[g]? = some (.cells #[.slice ta l.length tc, .int .i64 ((A : Int) + 2)] 44 (0, 0)) := Qr.blk_set1 KG3.out _; have hF4 : Qr.Fr g w ((w3.alloc (.cells #[.int .u8 58, .string ⟨nt.toArray⟩, .bool true] 77)).setCell ⟨g, 1, none⟩ (.int .i64 ((A : Int) + 2))) := hF3.set rfl _; have hP4 : Qr.PS g l r.tail.tail ((w3.alloc (.cells #[.int .u8 58, .string ⟨nt.toArray⟩, .bool true] 77)).setCell ⟨g, 1, none⟩ (.int .i64 ((A : Int) + 2))) := Qr.PS.of HPP.out KG.out hF4 HTT.out.1 kg4 HA2.out; have kR4 := Tx.blk_far (a := ⟨g, 1, none⟩) KR3.out (show w.heap.size ≠ g by omega) (.int .i64 ((A : Int) + 2)); have kT4 := Tx.blk_far (a := ⟨g, 1, none⟩) KT3.out (show w2.heap.size ≠ g by omega) (.int .i64 ((A : Int) + 2)); have s4 : ((w3.alloc (.cells #[.int .u8 58, .string ⟨nt.toArray⟩, .bool true] 77)).setCell ⟨g, 1, none⟩ (.int .i64 ((A : Int) + 2))).heap.size = w3.heap.size + 1 := (by simp [World.setCell]); have KR4 := Lib.hid kR4; have KT4 := Lib.hid kT4; clear kg4 kR4 kT4)
    | (go_at_call 76; refine (L0 _ hP1).mono ?_; rintro e w2 ⟨rfl, hb2⟩; have s2 := hb2.size; have kT2 : (w2.alloc (.cells #[.int .u8 114, .string ⟨tt.toArray⟩, .bool tg] 77)).heap[w2.heap.size]? = some (.cells #[.int .u8 114, .string ⟨tt.toArray⟩, .bool tg] 77 (0, 0)) := heap_alloc_new _ _; have kg2 : (w2.alloc (.cells #[.int .u8 114, .string ⟨tt.toArray⟩, .bool tg] 77)).heap[g]? = some (.cells #[.slice ta l.length tc, .int .i64 (A : Int)] 44 (0, 0)) := Tx.blk_later (Tx.blk_later KG1.out hb2) (Tx.newb w2 _); have kR2 : (w2.alloc (.cells #[.int .u8 114, .string ⟨tt.toArray⟩, .bool tg] 77)).heap[w.heap.size]? = some (.cells Qr.zeroQ 25 (0, 0)) := Tx.blk_later (Tx.blk_later KR1.out hb2) (Tx.newb w2 _); have hF2 : Qr.Fr g w (w2.alloc (.cells #[.int .u8 114, .string ⟨tt.toArray⟩, .bool tg] 77)) := (hF1.trans (.of_below hb2)).alloc _; have hP2 : Qr.PS g l r (w2.alloc (.cells #[.int .u8 114, .string ⟨tt.toArray⟩, .bool tg] 77)) := (hP1.below hb2).below (Tx.newb w2 _); have eg : (w2.alloc (.cells #[.int .u8 114, .string ⟨tt.toArray⟩, .bool tg] 77)).cell? ⟨g, 1, none⟩ = some (.int .i64 (A : Int)) := (Tx.blk kg2).1 1; have fg : ∀ i, (w2.alloc (.cells #[.int .u8 114, .string ⟨tt.toArray⟩, .bool tg] 77)).frozen? ⟨g, i, none⟩ = false := (Tx.blk kg2).2.1; have KT2 := Lib.hid kT2; have KG2 := Lib.hid kg2; have KR2 := Lib.hid kR2; clear kT2 kg2 kR2)
    | (go_at_call 75; refine (begins_c g l r _ hP0).mono ?_; rintro e w1 ⟨rfl, hb1⟩; rw [HB.out]; have hP1 := hP0.below hb1; have s1 : w.heap.size < w1.heap.size := (by have := hb1.size; simp at this; omega); have KG1 := Lib.hid (Tx.blk_later (Tx.blk_later KG.out (Tx.newb w _)) hb1); have KR1 : Hid (w1.heap[w.heap.size]? = some (.cells Qr.zeroQ 25 (0, 0))) := Lib.hid (Tx.blk_later (heap_alloc_new w _) hb1); have hF1 : Qr.Fr g w w1 := ((Qr.Fr.refl g w).alloc _).trans (.of_below hb1)))
  exact ⟨rfl, rfl, hF6⟩

set_option maxHeartbeats 1600000 in
theorem prim_par2 (g : Nat) (l r : List Qr.Tok) (w : World) (hP : Qr.PS g l r w) (kk : UInt8) (tt : List UInt8) (tg : Bool) (K : Int) (ht : Qr.lk r = ⟨kk, tt, tg⟩) (hK : (kk.toNat : Int) = K) (hb : Qr.begins r = true) (nk : UInt8) (nt : List UInt8) (ng : Bool) (N : Int) (hn : Qr.lk1 r = ⟨nk, nt, ng⟩) (hN : (nk.toNat : Int) = N) (hK4 : K = 114) (hN5 : N = 58) (hg1 : ng = true) (k2 : UInt8) (t2 : List UInt8) (g2 : Bool) (K2 : Int) (ht2 : Qr.lk r.tail.tail = ⟨k2, t2, g2⟩) (hK2 : (k2.toNat : Int) = K2) (hg2 : g2 = true) (hb2 : Qr.begins r.tail.tail = true) (h40 : K2 = 40) :
    Calls Tryz.prog 87 #[.pointer (some ⟨g, 0, none⟩)] w fun e w' => e = .panicked [{ v := Qr.wrongP, recovered := false }] ∧ Qr.Fr g w w' := by
  have hsl := hP.suf.length_le
  have hll := hP.len
  have hgl := hP.lt
  obtain ⟨ta, tc, kg, _, _⟩ := hP.blk
  obtain ⟨A, hA⟩ : ∃ A, l.length - r.length = A := ⟨_, rfl⟩
  rw [hA] at kg
  have hP0 := hP.below (Tx.newb w (.cells Qr.zeroQ 25))
  have KG := Lib.hid kg; clear kg
  have HPP := Lib.hid hP; clear hP
  have hk1 := Qr.begins_ne hb
  have hte := Qr.tail_eats hk1
  have L0 := fun w h => look0 (K := K) (w := w) (g := g) (l := l) ht hK h
  have HB := Lib.hid hb; clear hb
  have HTE := Lib.hid hte; clear hk1
  have hA1 : (A : Int) + 1 = ((l.length - r.tail.length : Nat) : Int) := by have := hte.2; rw [List.length_tail] at this ⊢; omega
  have hw1 := IntWalk.i64_in ((A : Int) + 1) ⟨by omega, by omega⟩
  have HA1 := Lib.hid hA1; clear hA1 hte ht hK
  subst hK4; subst hN5; subst hg1
  have hk2 : (Qr.lk r.tail).k ≠ 0 := by rw [show Qr.lk r.tail = ⟨nk, nt, true⟩ from hn]; intro h0; have h0' : nk = 0 := h0; rw [h0'] at hN; simp at hN
  have htt := (Qr.tail_eats hk2).1.trans HTE.out.1
  have hA2 : (A : Int) + 2 = ((l.length - r.tail.tail.length : Nat) : Int) := by
    have h1 := HA1.out
    have h2 := (Qr.tail_eats hk2).2
    have h3 := HTE.out.1.length_le
    rw [List.length_tail (l := r.tail)] at h2 ⊢
    omega
  have hw2 := IntWalk.i64_in ((A : Int) + 2) ⟨by omega, by omega⟩
  have HA2 := Lib.hid hA2
  have HTT : Hid (r.tail.tail <:+ r ∧ True) := Lib.hid ⟨htt, trivial⟩
  have L1 := fun w h => look1 (K := 58) (w := w) (g := g) (l := l) hn hN h
  have L2 := fun w h => look0 (r := r.tail.tail) (K := K2) (w := w) (g := g) (l := l) ht2 hK2 h
  clear hN hn ht2 hK2 hA2 htt hk2
  subst hg2; subst h40
  have HB2 := Lib.hid hb2; clear hb2
  go_enter Tryz.func87, Tryz.ntmps87
  go_wp2_with (first
    | (go_at_call 76; refine (L2 _ hP6).mono ?_; rintro e w7 ⟨rfl, hb7⟩; have s7 := hb7.size; have KT7 := Lib.hid (Tx.blk_later KT6.out hb7); have KR7 := Lib.hid (Tx.blk_later KR6.out hb7); have hF7 := hF6.trans (.of_below hb7); have hP7 := hP6.below hb7; have e71 : w7.cell? ⟨w2.heap.size, 1, none⟩ = some (.string ⟨tt.toArray⟩) := (Tx.blk KT7.out).1 1)
    | (go_at_call 75; refine (begins_c g l _ _ hP5).mono ?_; rintro e w6 ⟨rfl, hb6⟩; have s6 := hb6.size; have KT6 := Lib.hid (Tx.blk_later KT5.out hb6); have KR6 := Lib.hid (Tx.blk_later KR5.out hb6); have hF6 := hF5.trans (.of_below hb6); have hP6 := hP5.below hb6; rw [HB2.out])
    | (go_at_call 76; refine (L2 _ hP4).mono ?_; rintro e w5 ⟨rfl, hb5⟩; have s5 := hb5.size; have KT5 := Lib.hid (Tx.blk_later KT4.out hb5); have KR5 := Lib.hid (Tx.blk_later KR4.out hb5); have hF5 := hF4.trans (.of_below hb5); have hP5 := hP4.below hb5; clear eg fg eg3 fg3 e30)
    | (go_at_call 76; refine (L1 _ hP2).mono ?_; rintro e w3 ⟨rfl, hb3⟩; have s3 := hb3.size; simp only [World.size_alloc] at s3; have kT3 : (w3.alloc (.cells #[.int .u8 58, .string ⟨nt.toArray⟩, .bool true] 77)).heap[w2.heap.size]? = some (.cells #[.int .u8 114, .string ⟨tt.toArray⟩, .bool tg] 77 (0, 0)) := Tx.blk_later (Tx.blk_later KT2.out hb3) (Tx.newb w3 _); have kg3 : (w3.alloc (.cells #[.int .u8 58, .string ⟨nt.toArray⟩, .bool true] 77)).heap[g]? = some (.cells #[.slice ta l.length tc, .int .i64 (A : Int)] 44 (0, 0)) := Tx.blk_later (Tx.blk_later KG2.out hb3) (Tx.newb w3 _); have kR3 : (w3.alloc (.cells #[.int .u8 58, .string ⟨nt.toArray⟩, .bool true] 77)).heap[w.heap.size]? = some (.cells Qr.zeroQ 25 (0, 0)) := Tx.blk_later (Tx.blk_later KR2.out hb3) (Tx.newb w3 _); have hF3 : Qr.Fr g w (w3.alloc (.cells #[.int .u8 58, .string ⟨nt.toArray⟩, .bool true] 77)) := (hF2.trans (.of_below hb3)).alloc _; have hP3 : Qr.PS g l r (w3.alloc (.cells #[.int .u8 58, .string ⟨nt.toArray⟩, .bool true] 77)) := (hP2.below hb3).below (Tx.newb w3 _); have e30 : (w3.alloc (.cells #[.int .u8 58, .string ⟨nt.toArray⟩, .bool true] 77)).cell? ⟨w2.heap.size, 0, none⟩ = some (.int .u8 114) := (Tx.blk kT3).1 0; have eg3 : (w3.alloc (.cells #[.int .u8 58, .string ⟨nt.toArray⟩, .bool true] 77)).cell? ⟨g, 1, none⟩ = some (.int .i64 (A : Int)) := (Tx.blk kg3).1 1; have fg3 : ∀ i, (w3.alloc (.cells #[.int .u8 58, .string ⟨nt.toArray⟩, .bool true] 77)).frozen? ⟨g, i, none⟩ = false := (Tx.blk kg3).2.1; have KT3 := Lib.hid kT3; have KG3 := Lib.hid kg3; have KR3 := Lib.hid kR3; clear kT3 kg3 kR3; have kg4 : ((w3.alloc (.cells #[.int .u8 58, .string ⟨nt.toArray⟩, .bool true] 77)).setCell ⟨g, 1, none⟩ (.int .i64 ((A : Int) + 2))).heap[g]? = some (.cells #[.slice ta l.length tc, .int .i64 ((A : Int) + 2)] 44 (0, 0)) := Qr.blk_set1 KG3.out _; have hF4 : Qr.Fr g w ((w3.alloc (.cells #[.int .u8 58, .string ⟨nt.toArray⟩, .bool true] 77)).setCell ⟨g, 1, none⟩ (.int .i64 ((A : Int) + 2))) := hF3.set rfl _; have hP4 : Qr.PS g l r.tail.tail ((w3.alloc (.cells #[.int .u8 58, .string ⟨nt.toArray⟩, .bool true] 77)).setCell ⟨g, 1, none⟩ (.int .i64 ((A : Int) + 2))) := Qr.PS.of HPP.out KG.out hF4 HTT.out.1 kg4 HA2.out; have kR4 := Tx.blk_far (a := ⟨g, 1, none⟩) KR3.out (show w.heap.size ≠ g by omega) (.int .i64 ((A : Int) + 2)); have kT4 := Tx.blk_far (a := ⟨g, 1, none⟩) KT3.out (show w2.heap.size ≠ g by omega) (.int .i64 ((A : Int) + 2)); have s4 : ((w3.alloc (.cells #[.int .u8 58, .string ⟨nt.toArray⟩, .bool true] 77)).setCell ⟨g, 1, none⟩ (.int .i64 ((A : Int) + 2))).heap.size = w3.heap.size + 1 := (by simp [World.setCell]); have KR4 := Lib.hid kR4; have KT4 := Lib.hid kT4; clear kg4 kR4 kT4)
    | (go_at_call 76; refine (L0 _ hP1).mono ?_; rintro e w2 ⟨rfl, hb2⟩; have s2 := hb2.size; have kT2 : (w2.alloc (.cells #[.int .u8 114, .string ⟨tt.toArray⟩, .bool tg] 77)).heap[w2.heap.size]? = some (.cells #[.int .u8 114, .string ⟨tt.toArray⟩, .bool tg] 77 (0, 0)) := heap_alloc_new _ _; have kg2 : (w2.alloc (.cells #[.int .u8 114, .string ⟨tt.toArray⟩, .bool tg] 77)).heap[g]? = some (.cells #[.slice ta l.length tc, .int .i64 (A : Int)] 44 (0, 0)) := Tx.blk_later (Tx.blk_later KG1.out hb2) (Tx.newb w2 _); have kR2 : (w2.alloc (.cells #[.int .u8 114, .string ⟨tt.toArray⟩, .bool tg] 77)).heap[w.heap.size]? = some (.cells Qr.zeroQ 25 (0, 0)) := Tx.blk_later (Tx.blk_later KR1.out hb2) (Tx.newb w2 _); have hF2 : Qr.Fr g w (w2.alloc (.cells #[.int .u8 114, .string ⟨tt.toArray⟩, .bool tg] 77)) := (hF1.trans (.of_below hb2)).alloc _; have hP2 : Qr.PS g l r (w2.alloc (.cells #[.int .u8 114, .string ⟨tt.toArray⟩, .bool tg] 77)) := (hP1.below hb2).below (Tx.newb w2 _); have eg : (w2.alloc (.cells #[.int .u8 114, .string ⟨tt.toArray⟩, .bool tg] 77)).cell? ⟨g, 1, none⟩ = some (.int .i64 (A : Int)) := (Tx.blk kg2).1 1; have fg : ∀ i, (w2.alloc (.cells #[.int .u8 114, .string ⟨tt.toArray⟩, .bool tg] 77)).frozen? ⟨g, i, none⟩ = false := (Tx.blk kg2).2.1; have KT2 := Lib.hid kT2; have KG2 := Lib.hid kg2; have KR2 := Lib.hid kR2; clear kT2 kg2 kR2)
    | (go_at_call 75; refine (begins_c g l r _ hP0).mono ?_; rintro e w1 ⟨rfl, hb1⟩; rw [HB.out]; have hP1 := hP0.below hb1; have s1 : w.heap.size < w1.heap.size := (by have := hb1.size; simp at this; omega); have KG1 := Lib.hid (Tx.blk_later (Tx.blk_later KG.out (Tx.newb w _)) hb1); have KR1 : Hid (w1.heap[w.heap.size]? = some (.cells Qr.zeroQ 25 (0, 0))) := Lib.hid (Tx.blk_later (heap_alloc_new w _) hb1); have hF1 : Qr.Fr g w w1 := ((Qr.Fr.refl g w).alloc _).trans (.of_below hb1)))
  exact ⟨rfl, rfl, hF7⟩

set_option maxHeartbeats 1600000 in
theorem prim_year_none (g : Nat) (l r : List Qr.Tok) (w : World) (hP : Qr.PS g l r w) (kk : UInt8) (tt : List UInt8) (tg : Bool) (K : Int) (ht : Qr.lk r = ⟨kk, tt, tg⟩) (hK : (kk.toNat : Int) = K) (hb : Qr.begins r = true) (nk : UInt8) (nt : List UInt8) (ng : Bool) (N : Int) (hn : Qr.lk1 r = ⟨nk, nt, ng⟩) (hN : (nk.toNat : Int) = N) (hK4 : K = 114) (hN5 : N = 58) (hg1 : ng = true) (k2 : UInt8) (t2 : List UInt8) (g2 : Bool) (K2 : Int) (ht2 : Qr.lk r.tail.tail = ⟨k2, t2, g2⟩) (hK2 : (k2.toNat : Int) = K2) (hg2 : g2 = true) (hb2 : Qr.begins r.tail.tail = true) (h40 : ¬ K2 = 40) (hwt : Qr.word0 r.tail.tail = true) (hty : tt = [121, 101, 97, 114]) (hx : Qr.pYears true r.tail.tail = none) :
    Calls Tryz.prog 87 #[.pointer (some ⟨g, 0, none⟩)] w fun e w' => e = .panicked [{ v := Qr.wrongP, recovered := false }] ∧ Qr.Fr g w w' := by
  have hsl := hP.suf.length_le
  have hll := hP.len
  have hgl := hP.lt
  obtain ⟨ta, tc, kg, _, _⟩ := hP.blk
  obtain ⟨A, hA⟩ : ∃ A, l.length - r.length = A := ⟨_, rfl⟩
  rw [hA] at kg
  have hP0 := hP.below (Tx.newb w (.cells Qr.zeroQ 25))
  have KG := Lib.hid kg; clear kg
  have HPP := Lib.hid hP; clear hP
  have hk1 := Qr.begins_ne hb
  have hte := Qr.tail_eats hk1
  have L0 := fun w h => look0 (K := K) (w := w) (g := g) (l := l) ht hK h
  have HB := Lib.hid hb; clear hb
  have HTE := Lib.hid hte; clear hk1
  have hA1 : (A : Int) + 1 = ((l.length - r.tail.length : Nat) : Int) := by have := hte.2; rw [List.length_tail] at this ⊢; omega
  have hw1 := IntWalk.i64_in ((A : Int) + 1) ⟨by omega, by omega⟩
  have HA1 := Lib.hid hA1; clear hA1 hte ht hK
  subst hK4; subst hN5; subst hg1
  have hk2 : (Qr.lk r.tail).k ≠ 0 := by rw [show Qr.lk r.tail = ⟨nk, nt, true⟩ from hn]; intro h0; have h0' : nk = 0 := h0; rw [h0'] at hN; simp at hN
  have htt := (Qr.tail_eats hk2).1.trans HTE.out.1
  have hA2 : (A : Int) + 2 = ((l.length - r.tail.tail.length : Nat) : Int) := by
    have h1 := HA1.out
    have h2 := (Qr.tail_eats hk2).2
    have h3 := HTE.out.1.length_le
    rw [List.length_tail (l := r.tail)] at h2 ⊢
    omega
  have hw2 := IntWalk.i64_in ((A : Int) + 2) ⟨by omega, by omega⟩
  have HA2 := Lib.hid hA2
  have HTT : Hid (r.tail.tail <:+ r ∧ True) := Lib.hid ⟨htt, trivial⟩
  have L1 := fun w h => look1 (K := 58) (w := w) (g := g) (l := l) hn hN h
  have L2 := fun w h => look0 (r := r.tail.tail) (K := K2) (w := w) (g := g) (l := l) ht2 hK2 h
  clear hN hn ht2 hK2 hA2 htt hk2
  subst hg2
  have n40 : (K2 == 40) = false := beq_eq_false_iff_ne.2 h40
  have HB2 := Lib.hid hb2; clear hb2
  have HW2 := Lib.hid hwt; clear hwt
  subst hty
  have HX := Lib.hid hx; clear hx
  go_enter Tryz.func87, Tryz.ntmps87
  go_wp2_with (first
    | (go_at_call 95; refine (years_c g l _ _ hP7 HW2.out).mono ?_; rintro e w8 h8; rw [HX.out] at h8; obtain ⟨rfl, hF8⟩ := h8.bad; have hF8' := hF7.trans hF8)
    | (go_at_call 76; refine (L2 _ hP6).mono ?_; rintro e w7 ⟨rfl, hb7⟩; have s7 := hb7.size; have KT7 := Lib.hid (Tx.blk_later KT6.out hb7); have KR7 := Lib.hid (Tx.blk_later KR6.out hb7); have hF7 := hF6.trans (.of_below hb7); have hP7 := hP6.below hb7; have e71 : w7.cell? ⟨w2.heap.size, 1, none⟩ = some (.string ⟨([121, 101, 97, 114] : List UInt8).toArray⟩) := (Tx.blk KT7.out).1 1)
    | (go_at_call 75; refine (begins_c g l _ _ hP5).mono ?_; rintro e w6 ⟨rfl, hb6⟩; have s6 := hb6.size; have KT6 := Lib.hid (Tx.blk_later KT5.out hb6); have KR6 := Lib.hid (Tx.blk_later KR5.out hb6); have hF6 := hF5.trans (.of_below hb6); have hP6 := hP5.below hb6; rw [HB2.out])
    | (go_at_call 76; refine (L2 _ hP4).mono ?_; rintro e w5 ⟨rfl, hb5⟩; have s5 := hb5.size; have KT5 := Lib.hid (Tx.blk_later KT4.out hb5); have KR5 := Lib.hid (Tx.blk_later KR4.out hb5); have hF5 := hF4.trans (.of_below hb5); have hP5 := hP4.below hb5; clear eg fg eg3 fg3 e30)
    | (go_at_call 76; refine (L1 _ hP2).mono ?_; rintro e w3 ⟨rfl, hb3⟩; have s3 := hb3.size; simp only [World.size_alloc] at s3; have kT3 : (w3.alloc (.cells #[.int .u8 58, .string ⟨nt.toArray⟩, .bool true] 77)).heap[w2.heap.size]? = some (.cells #[.int .u8 114, .string ⟨([121, 101, 97, 114] : List UInt8).toArray⟩, .bool tg] 77 (0, 0)) := Tx.blk_later (Tx.blk_later KT2.out hb3) (Tx.newb w3 _); have kg3 : (w3.alloc (.cells #[.int .u8 58, .string ⟨nt.toArray⟩, .bool true] 77)).heap[g]? = some (.cells #[.slice ta l.length tc, .int .i64 (A : Int)] 44 (0, 0)) := Tx.blk_later (Tx.blk_later KG2.out hb3) (Tx.newb w3 _); have kR3 : (w3.alloc (.cells #[.int .u8 58, .string ⟨nt.toArray⟩, .bool true] 77)).heap[w.heap.size]? = some (.cells Qr.zeroQ 25 (0, 0)) := Tx.blk_later (Tx.blk_later KR2.out hb3) (Tx.newb w3 _); have hF3 : Qr.Fr g w (w3.alloc (.cells #[.int .u8 58, .string ⟨nt.toArray⟩, .bool true] 77)) := (hF2.trans (.of_below hb3)).alloc _; have hP3 : Qr.PS g l r (w3.alloc (.cells #[.int .u8 58, .string ⟨nt.toArray⟩, .bool true] 77)) := (hP2.below hb3).below (Tx.newb w3 _); have e30 : (w3.alloc (.cells #[.int .u8 58, .string ⟨nt.toArray⟩, .bool true] 77)).cell? ⟨w2.heap.size, 0, none⟩ = some (.int .u8 114) := (Tx.blk kT3).1 0; have eg3 : (w3.alloc (.cells #[.int .u8 58, .string ⟨nt.toArray⟩, .bool true] 77)).cell? ⟨g, 1, none⟩ = some (.int .i64 (A : Int)) := (Tx.blk kg3).1 1; have fg3 : ∀ i, (w3.alloc (.cells #[.int .u8 58, .string ⟨nt.toArray⟩, .bool true] 77)).frozen? ⟨g, i, none⟩ = false := (Tx.blk kg3).2.1; have KT3 := Lib.hid kT3; have KG3 := Lib.hid kg3; have KR3 := Lib.hid kR3; clear kT3 kg3 kR3; have kg4 : ((w3.alloc (.cells #[.int .u8 58, .string ⟨nt.toArray⟩, .bool true] 77)).setCell ⟨g, 1, none⟩ (.int .i64 ((A : Int) + 2))).heap[g]? = some (.cells #[.slice ta l.length tc, .int .i64 ((A : Int) + 2)] 44 (0, 0)) := Qr.blk_set1 KG3.out _; have hF4 : Qr.Fr g w ((w3.alloc (.cells #[.int .u8 58, .string ⟨nt.toArray⟩, .bool true] 77)).setCell ⟨g, 1, none⟩ (.int .i64 ((A : Int) + 2))) := hF3.set rfl _; have hP4 : Qr.PS g l r.tail.tail ((w3.alloc (.cells #[.int .u8 58, .string ⟨nt.toArray⟩, .bool true] 77)).setCell ⟨g, 1, none⟩ (.int .i64 ((A : Int) + 2))) := Qr.PS.of HPP.out KG.out hF4 HTT.out.1 kg4 HA2.out; have kR4 := Tx.blk_far (a := ⟨g, 1, none⟩) KR3.out (show w.heap.size ≠ g by omega) (.int .i64 ((A : Int) + 2)); have kT4 := Tx.blk_far (a := ⟨g, 1, none⟩) KT3.out (show w2.heap.size ≠ g by omega) (.int .i64 ((A : Int) + 2)); have s4 : ((w3.alloc (.cells #[.int .u8 58, .string ⟨nt.toArray⟩, .bool true] 77)).setCell ⟨g, 1, none⟩ (.int .i64 ((A : Int) + 2))).heap.size = w3.heap.size + 1 := (by simp [World.setCell]); have KR4 := Lib.hid kR4; have KT4 := Lib.hid kT4; clear kg4 kR4 kT4)
    | (go_at_call 76; refine (L0 _ hP1).mono ?_; rintro e w2 ⟨rfl, hb2⟩; have s2 := hb2.size; have kT2 : (w2.alloc (.cells #[.int .u8 114, .string ⟨([121, 101, 97, 114] : List UInt8).toArray⟩, .bool tg] 77)).heap[w2.heap.size]? = some (.cells #[.int .u8 114, .string ⟨([121, 101, 97, 114] : List UInt8).toArray⟩, .bool tg] 77 (0, 0)) := heap_alloc_new _ _; have kg2 : (w2.alloc (.cells #[.int .u8 114, .string ⟨([121, 101, 97, 114] : List UInt8).toArray⟩, .bool tg] 77)).heap[g]? = some (.cells #[.slice ta l.length tc, .int .i64 (A : Int)] 44 (0, 0)) := Tx.blk_later (Tx.blk_later KG1.out hb2) (Tx.newb w2 _); have kR2 : (w2.alloc (.cells #[.int .u8 114, .string ⟨([121, 101, 97, 114] : List UInt8).toArray⟩, .bool tg] 77)).heap[w.heap.size]? = some (.cells Qr.zeroQ 25 (0, 0)) := Tx.blk_later (Tx.blk_later KR1.out hb2) (Tx.newb w2 _); have hF2 : Qr.Fr g w (w2.alloc (.cells #[.int .u8 114, .string ⟨([121, 101, 97, 114] : List UInt8).toArray⟩, .bool tg] 77)) := (hF1.trans (.of_below hb2)).alloc _; have hP2 : Qr.PS g l r (w2.alloc (.cells #[.int .u8 114, .string ⟨([121, 101, 97, 114] : List UInt8).toArray⟩, .bool tg] 77)) := (hP1.below hb2).below (Tx.newb w2 _); have eg : (w2.alloc (.cells #[.int .u8 114, .string ⟨([121, 101, 97, 114] : List UInt8).toArray⟩, .bool tg] 77)).cell? ⟨g, 1, none⟩ = some (.int .i64 (A : Int)) := (Tx.blk kg2).1 1; have fg : ∀ i, (w2.alloc (.cells #[.int .u8 114, .string ⟨([121, 101, 97, 114] : List UInt8).toArray⟩, .bool tg] 77)).frozen? ⟨g, i, none⟩ = false := (Tx.blk kg2).2.1; have KT2 := Lib.hid kT2; have KG2 := Lib.hid kg2; have KR2 := Lib.hid kR2; clear kT2 kg2 kR2)
    | (go_at_call 75; refine (begins_c g l r _ hP0).mono ?_; rintro e w1 ⟨rfl, hb1⟩; rw [HB.out]; have hP1 := hP0.below hb1; have s1 : w.heap.size < w1.heap.size := (by have := hb1.size; simp at this; omega); have KG1 := Lib.hid (Tx.blk_later (Tx.blk_later KG.out (Tx.newb w _)) hb1); have KR1 : Hid (w1.heap[w.heap.size]? = some (.cells Qr.zeroQ 25 (0, 0))) := Lib.hid (Tx.blk_later (heap_alloc_new w _) hb1); have hF1 : Qr.Fr g w w1 := ((Qr.Fr.refl g w).alloc _).trans (.of_below hb1)))
  exact ⟨rfl, rfl, hF8'⟩

set_option maxHeartbeats 1600000 in
theorem prim_year_ok (g : Nat) (l r : List Qr.Tok) (w : World) (hP : Qr.PS g l r w) (kk : UInt8) (tt : List UInt8) (tg : Bool) (K : Int) (ht : Qr.lk r = ⟨kk, tt, tg⟩) (hK : (kk.toNat : Int) = K) (hb : Qr.begins r = true) (nk : UInt8) (nt : List UInt8) (ng : Bool) (N : Int) (hn : Qr.lk1 r = ⟨nk, nt, ng⟩) (hN : (nk.toNat : Int) = N) (hK4 : K = 114) (hN5 : N = 58) (hg1 : ng = true) (k2 : UInt8) (t2 : List UInt8) (g2 : Bool) (K2 : Int) (ht2 : Qr.lk r.tail.tail = ⟨k2, t2, g2⟩) (hK2 : (k2.toNat : Int) = K2) (hg2 : g2 = true) (hb2 : Qr.begins r.tail.tail = true) (h40 : ¬ K2 = 40) (hwt : Qr.word0 r.tail.tail = true) (hty : tt = [121, 101, 97, 114]) (q : Qr.Qy) (r' : List Qr.Tok) (hx : Qr.pYears true r.tail.tail = some (q, r')) :
    Calls Tryz.prog 87 #[.pointer (some ⟨g, 0, none⟩)] w fun e w' => Qr.Res g l (some (q, r')) w e w' := by
  have hsl := hP.suf.length_le
  have hll := hP.len
  have hgl := hP.lt
  obtain ⟨ta, tc, kg, _, _⟩ := hP.blk
  obtain ⟨A, hA⟩ : ∃ A, l.length - r.length = A := ⟨_, rfl⟩
  rw [hA] at kg
  have hP0 := hP.below (Tx.newb w (.cells Qr.zeroQ 25))
  have KG := Lib.hid kg; clear kg
  have HPP := Lib.hid hP; clear hP
  have hk1 := Qr.begins_ne hb
  have hte := Qr.tail_eats hk1
  have L0 := fun w h => look0 (K := K) (w := w) (g := g) (l := l) ht hK h
  have HB := Lib.hid hb; clear hb
  have HTE := Lib.hid hte; clear hk1
  have hA1 : (A : Int) + 1 = ((l.length - r.tail.length : Nat) : Int) := by have := hte.2; rw [List.length_tail] at this ⊢; omega
  have hw1 := IntWalk.i64_in ((A : Int) + 1) ⟨by omega, by omega⟩
  have HA1 := Lib.hid hA1; clear hA1 hte ht hK
  subst hK4; subst hN5; subst hg1
  have hk2 : (Qr.lk r.tail).k ≠ 0 := by rw [show Qr.lk r.tail = ⟨nk, nt, true⟩ from hn]; intro h0; have h0' : nk = 0 := h0; rw [h0'] at hN; simp at hN
  have htt := (Qr.tail_eats hk2).1.trans HTE.out.1
  have hA2 : (A : Int) + 2 = ((l.length - r.tail.tail.length : Nat) : Int) := by
    have h1 := HA1.out
    have h2 := (Qr.tail_eats hk2).2
    have h3 := HTE.out.1.length_le
    rw [List.length_tail (l := r.tail)] at h2 ⊢
    omega
  have hw2 := IntWalk.i64_in ((A : Int) + 2) ⟨by omega, by omega⟩
  have HA2 := Lib.hid hA2
  have HTT : Hid (r.tail.tail <:+ r ∧ True) := Lib.hid ⟨htt, trivial⟩
  have L1 := fun w h => look1 (K := 58) (w := w) (g := g) (l := l) hn hN h
  have L2 := fun w h => look0 (r := r.tail.tail) (K := K2) (w := w) (g := g) (l := l) ht2 hK2 h
  clear hN hn ht2 hK2 hA2 htt hk2
  subst hg2
  have n40 : (K2 == 40) = false := beq_eq_false_iff_ne.2 h40
  have HB2 := Lib.hid hb2; clear hb2
  have HW2 := Lib.hid hwt; clear hwt
  subst hty
  have HX := Lib.hid hx; clear hx
  go_enter Tryz.func87, Tryz.ntmps87
  go_wp2_with (first
    | (go_at_call 95; refine (years_c g l _ _ hP7 HW2.out).mono ?_; rintro e w4 h4; rw [HX.out] at h4; clear hP4 hF4; obtain ⟨qo, qf, qa, qb, qsa, qsn, qsc, qka, qkn, qkc, rfl, hq4, hP4, hF4⟩ := h4.get; have s4x := hF4.size; skip; have kR4 := (hF4.block w.heap.size (by omega) (by first | omega | (simp; omega))).trans KR7.out; have hF4' := hF7.trans hF4; have z0 : w4.cell? ⟨w.heap.size, 0, none⟩ = some (.int .i64 0) := (Tx.blk kR4).1 0; have z1 : w4.cell? ⟨w.heap.size, 1, none⟩ = some (.int .i64 0) := (Tx.blk kR4).1 1; have z2 : w4.cell? ⟨w.heap.size, 2, none⟩ = some (.slice none 0 0) := (Tx.blk kR4).1 2; have z3 : w4.cell? ⟨w.heap.size, 3, none⟩ = some (.int .i64 0) := (Tx.blk kR4).1 3; have z4 : w4.cell? ⟨w.heap.size, 4, none⟩ = some (.int .i64 0) := (Tx.blk kR4).1 4; have z5 : w4.cell? ⟨w.heap.size, 5, none⟩ = some (.slice none 0 0) := (Tx.blk kR4).1 5; have fr9 : ∀ i, w4.frozen? ⟨w.heap.size, i, none⟩ = false := (Tx.blk kR4).2.1; obtain ⟨ta4, tc4, kg4, _, _⟩ := hP4.blk; have KP4 := Lib.hid kg4; clear kg4 kR4)
    | (go_at_call 76; refine (L2 _ hP6).mono ?_; rintro e w7 ⟨rfl, hb7⟩; have s7 := hb7.size; have KT7 := Lib.hid (Tx.blk_later KT6.out hb7); have KR7 := Lib.hid (Tx.blk_later KR6.out hb7); have hF7 := hF6.trans (.of_below hb7); have hP7 := hP6.below hb7; have e71 : w7.cell? ⟨w2.heap.size, 1, none⟩ = some (.string ⟨([121, 101, 97, 114] : List UInt8).toArray⟩) := (Tx.blk KT7.out).1 1)
    | (go_at_call 75; refine (begins_c g l _ _ hP5).mono ?_; rintro e w6 ⟨rfl, hb6⟩; have s6 := hb6.size; have KT6 := Lib.hid (Tx.blk_later KT5.out hb6); have KR6 := Lib.hid (Tx.blk_later KR5.out hb6); have hF6 := hF5.trans (.of_below hb6); have hP6 := hP5.below hb6; rw [HB2.out])
    | (go_at_call 76; refine (L2 _ hP4).mono ?_; rintro e w5 ⟨rfl, hb5⟩; have s5 := hb5.size; have KT5 := Lib.hid (Tx.blk_later KT4.out hb5); have KR5 := Lib.hid (Tx.blk_later KR4.out hb5); have hF5 := hF4.trans (.of_below hb5); have hP5 := hP4.below hb5; clear eg fg eg3 fg3 e30)
    | (go_at_call 76; refine (L1 _ hP2).mono ?_; rintro e w3 ⟨rfl, hb3⟩; have s3 := hb3.size; simp only [World.size_alloc] at s3; have kT3 : (w3.alloc (.cells #[.int .u8 58, .string ⟨nt.toArray⟩, .bool true] 77)).heap[w2.heap.size]? = some (.cells #[.int .u8 114, .string ⟨([121, 101, 97, 114] : List UInt8).toArray⟩, .bool tg] 77 (0, 0)) := Tx.blk_later (Tx.blk_later KT2.out hb3) (Tx.newb w3 _); have kg3 : (w3.alloc (.cells #[.int .u8 58, .string ⟨nt.toArray⟩, .bool true] 77)).heap[g]? = some (.cells #[.slice ta l.length tc, .int .i64 (A : Int)] 44 (0, 0)) := Tx.blk_later (Tx.blk_later KG2.out hb3) (Tx.newb w3 _); have kR3 : (w3.alloc (.cells #[.int .u8 58, .string ⟨nt.toArray⟩, .bool true] 77)).heap[w.heap.size]? = some (.cells Qr.zeroQ 25 (0, 0)) := Tx.blk_later (Tx.blk_later KR2.out hb3) (Tx.newb w3 _); have hF3 : Qr.Fr g w (w3.alloc (.cells #[.int .u8 58, .string ⟨nt.toArray⟩, .bool true] 77)) := (hF2.trans (.of_below hb3)).alloc _; have hP3 : Qr.PS g l r (w3.alloc (.cells #[.int .u8 58, .string ⟨nt.toArray⟩, .bool true] 77)) := (hP2.below hb3).below (Tx.newb w3 _); have e30 : (w3.alloc (.cells #[.int .u8 58, .string ⟨nt.toArray⟩, .bool true] 77)).cell? ⟨w2.heap.size, 0, none⟩ = some (.int .u8 114) := (Tx.blk kT3).1 0; have eg3 : (w3.alloc (.cells #[.int .u8 58, .string ⟨nt.toArray⟩, .bool true] 77)).cell? ⟨g, 1, none⟩ = some (.int .i64 (A : Int)) := (Tx.blk kg3).1 1; have fg3 : ∀ i, (w3.alloc (.cells #[.int .u8 58, .string ⟨nt.toArray⟩, .bool true] 77)).frozen? ⟨g, i, none⟩ = false := (Tx.blk kg3).2.1; have KT3 := Lib.hid kT3; have KG3 := Lib.hid kg3; have KR3 := Lib.hid kR3; clear kT3 kg3 kR3; have kg4 : ((w3.alloc (.cells #[.int .u8 58, .string ⟨nt.toArray⟩, .bool true] 77)).setCell ⟨g, 1, none⟩ (.int .i64 ((A : Int) + 2))).heap[g]? = some (.cells #[.slice ta l.length tc, .int .i64 ((A : Int) + 2)] 44 (0, 0)) := Qr.blk_set1 KG3.out _; have hF4 : Qr.Fr g w ((w3.alloc (.cells #[.int .u8 58, .string ⟨nt.toArray⟩, .bool true] 77)).setCell ⟨g, 1, none⟩ (.int .i64 ((A : Int) + 2))) := hF3.set rfl _; have hP4 : Qr.PS g l r.tail.tail ((w3.alloc (.cells #[.int .u8 58, .string ⟨nt.toArray⟩, .bool true] 77)).setCell ⟨g, 1, none⟩ (.int .i64 ((A : Int) + 2))) := Qr.PS.of HPP.out KG.out hF4 HTT.out.1 kg4 HA2.out; have kR4 := Tx.blk_far (a := ⟨g, 1, none⟩) KR3.out (show w.heap.size ≠ g by omega) (.int .i64 ((A : Int) + 2)); have kT4 := Tx.blk_far (a := ⟨g, 1, none⟩) KT3.out (show w2.heap.size ≠ g by omega) (.int .i64 ((A : Int) + 2)); have s4 : ((w3.alloc (.cells #[.int .u8 58, .string ⟨nt.toArray⟩, .bool true] 77)).setCell ⟨g, 1, none⟩ (.int .i64 ((A : Int) + 2))).heap.size = w3.heap.size + 1 := (by simp [World.setCell]); have KR4 := Lib.hid kR4; have KT4 := Lib.hid kT4; clear kg4 kR4 kT4)
    | (go_at_call 76; refine (L0 _ hP1).mono ?_; rintro e w2 ⟨rfl, hb2⟩; have s2 := hb2.size; have kT2 : (w2.alloc (.cells #[.int .u8 114, .string ⟨([121, 101, 97, 114] : List UInt8).toArray⟩, .bool tg] 77)).heap[w2.heap.size]? = some (.cells #[.int .u8 114, .string ⟨([121, 101, 97, 114] : List UInt8).toArray⟩, .bool tg] 77 (0, 0)) := heap_alloc_new _ _; have kg2 : (w2.alloc (.cells #[.int .u8 114, .string ⟨([121, 101, 97, 114] : List UInt8).toArray⟩, .bool tg] 77)).heap[g]? = some (.cells #[.slice ta l.length tc, .int .i64 (A : Int)] 44 (0, 0)) := Tx.blk_later (Tx.blk_later KG1.out hb2) (Tx.newb w2 _); have kR2 : (w2.alloc (.cells #[.int .u8 114, .string ⟨([121, 101, 97, 114] : List UInt8).toArray⟩, .bool tg] 77)).heap[w.heap.size]? = some (.cells Qr.zeroQ 25 (0, 0)) := Tx.blk_later (Tx.blk_later KR1.out hb2) (Tx.newb w2 _); have hF2 : Qr.Fr g w (w2.alloc (.cells #[.int .u8 114, .string ⟨([121, 101, 97, 114] : List UInt8).toArray⟩, .bool tg] 77)) := (hF1.trans (.of_below hb2)).alloc _; have hP2 : Qr.PS g l r (w2.alloc (.cells #[.int .u8 114, .string ⟨([121, 101, 97, 114] : List UInt8).toArray⟩, .bool tg] 77)) := (hP1.below hb2).below (Tx.newb w2 _); have eg : (w2.alloc (.cells #[.int .u8 114, .string ⟨([121, 101, 97, 114] : List UInt8).toArray⟩, .bool tg] 77)).cell? ⟨g, 1, none⟩ = some (.int .i64 (A : Int)) := (Tx.blk kg2).1 1; have fg : ∀ i, (w2.alloc (.cells #[.int .u8 114, .string ⟨([121, 101, 97, 114] : List UInt8).toArray⟩, .bool tg] 77)).frozen? ⟨g, i, none⟩ = false := (Tx.blk kg2).2.1; have KT2 := Lib.hid kT2; have KG2 := Lib.hid kg2; have KR2 := Lib.hid kR2; clear kT2 kg2 kR2)
    | (go_at_call 75; refine (begins_c g l r _ hP0).mono ?_; rintro e w1 ⟨rfl, hb1⟩; rw [HB.out]; have hP1 := hP0.below hb1; have s1 : w.heap.size < w1.heap.size := (by have := hb1.size; simp at this; omega); have KG1 := Lib.hid (Tx.blk_later (Tx.blk_later KG.out (Tx.newb w _)) hb1); have KR1 : Hid (w1.heap[w.heap.size]? = some (.cells Qr.zeroQ 25 (0, 0))) := Lib.hid (Tx.blk_later (heap_alloc_new w _) hb1); have hF1 : Qr.Fr g w w1 := ((Qr.Fr.refl g w).alloc _).trans (.of_below hb1)))
  refine bodyPost_ret (v := .agg #[.int .i64 qo, .int .i64 qf, .slice qsa qsn qsc, .int .i64 qa, .int .i64 qb, .slice qka qkn qkc]) (by simp [results, Tryz.results87, go_sem, z0, z1, z2, z3, z4, z5]) rfl ⟨⟨qo, qf, qsa, qsn, qsc, qa, qb, qka, qkn, qkc⟩, rfl, (hq4.kp (Qr.Kp.put6 (Qr.Kp.refl _ _) (by omega) _ _ _ _ _ _)).mono (by omega), Qr.PS.of' hP4 KP4.out (Tx.put6 (Below.refl _ _) (by omega) _ _ _ _ _ _) (List.suffix_refl _) (Qr.far6 KP4.out (show g ≠ w.heap.size by omega) _ _ _ _ _ _) rfl, Qr.Fr.put6 hF4' (Nat.le_refl _) _ _ _ _ _ _⟩

end Go.Proofs.YtkahplbjbidemaaGreatDoor

/- A primary is read that is a term in a field: what the program's call does. -/
namespace Go.Proofs.YtkahplbjbidemaaGreatDoor
open Go.RowKit
set_option maxRecDepth 100000
attribute [local go_sem] Qr.run_tok0 Qr.run_tok1 Qr.run_tok2

namespace Qr
def nms : List (List UInt8) := [[97, 110, 121], [116, 105], [97, 117], [115, 117], [110, 117]]
theorem fieldOf_at {k : Nat} {t : List UInt8} (h : nms[k]? = some t) : fieldOf t = some (k : Int) := by
  match k, h with
  | 0, h => injection h with h; subst h; rfl
  | 1, h => injection h with h; subst h; rfl
  | 2, h => injection h with h; subst h; rfl
  | 3, h => injection h with h; subst h; rfl
  | 4, h => injection h with h; subst h; rfl
  | k + 5, h => simp [nms] at h
theorem fieldOf_none {t : List UInt8} (h : ∀ x ∈ nms, x ≠ t) : fieldOf t = none := by
  have h0 := h [97, 110, 121] (by simp [nms])
  have h1 := h [116, 105] (by simp [nms])
  have h2 := h [97, 117] (by simp [nms])
  have h3 := h [115, 117] (by simp [nms])
  have h4 := h [110, 117] (by simp [nms])
  unfold fieldOf
  rw [if_neg h0.symm, if_neg h1.symm, if_neg h2.symm, if_neg h3.symm, if_neg h4.symm]
theorem nms_cell {w : World} {b k : Nat} {x : List UInt8} (h : w.heap[b]? = some (.cells #[.string ⟨#[97, 110, 121]⟩, .string ⟨#[116, 105]⟩, .string ⟨#[97, 117]⟩, .string ⟨#[115, 117]⟩, .string ⟨#[110, 117]⟩] 9 (0, 0))) (hx : nms[k]? = some x) : w.cell? ⟨b, k, none⟩ = some (.string ⟨x.toArray⟩) := by
  have hc := (Tx.blk h).1
  match k, hx with
  | 0, hx => injection hx with hx; subst hx; exact hc 0
  | 1, hx => injection hx with hx; subst hx; exact hc 1
  | 2, hx => injection hx with hx; subst hx; exact hc 2
  | 3, hx => injection hx with hx; subst hx; exact hc 3
  | 4, hx => injection hx with hx; subst hx; exact hc 4
  | k + 5, hx => simp [nms] at hx
end Qr

namespace Qr
theorem Kp.later {M : Nat} {a w : World} (h : Kp M a w) {p : Addr} (hp : a.heap.size ≤ p.block) (u : Value) : Kp M a (w.setCell p u) :=
  ⟨Nat.le_trans h.size (by simp [World.setCell]), fun k h1 h2 => (Below.heap_setCell _ _ _ _ (by omega)).trans (h.block k h1 h2)⟩
def Qy.withF (f : Int) : Qy → Qy | .mk o _ ws a b ks => .mk o f ws a b ks
theorem pTerm_f (st : Bool) (f : Int) (r : List Tok) : pTerm st f r = (pTerm st 0 r).map fun x => (x.1.withF f, x.2) := by
  unfold pTerm
  repeat' split
  all_goals rfl
theorem QC.setF {B : Nat} {w : World} {q : Qy} {o f a b : Int} {sa ka : Option Addr} {sn sc kn kc : Nat} (f' : Int) (h : QC B w q [.int .i64 o, .int .i64 f, .slice sa sn sc, .int .i64 a, .int .i64 b, .slice ka kn kc]) : QC B w (q.withF f') [.int .i64 o, .int .i64 f', .slice sa sn sc, .int .i64 a, .int .i64 b, .slice ka kn kc] := by
  cases h with
  | mk hw hwb hl hk hf hfb => exact .mk hw hwb hl hk hf hfb
end Qr

set_option maxHeartbeats 3200000 in
theorem prim_name (g : Nat) (l r : List Qr.Tok) (w : World) (hP : Qr.PS g l r w) (kk : UInt8) (tt : List UInt8) (tg : Bool) (K : Int) (ht : Qr.lk r = ⟨kk, tt, tg⟩) (hK : (kk.toNat : Int) = K) (hb : Qr.begins r = true) (nk : UInt8) (nt : List UInt8) (ng : Bool) (N : Int) (hn : Qr.lk1 r = ⟨nk, nt, ng⟩) (hN : (nk.toNat : Int) = N) (hK4 : K = 114) (hN5 : N = 58) (hg1 : ng = true) (k2 : UInt8) (t2 : List UInt8) (g2 : Bool) (K2 : Int) (ht2 : Qr.lk r.tail.tail = ⟨k2, t2, g2⟩) (hK2 : (k2.toNat : Int) = K2) (hg2 : g2 = true) (hb2 : Qr.begins r.tail.tail = true) (h40 : ¬ K2 = 40) (hwt : Qr.word0 r.tail.tail = true) (hty : tt ≠ [121, 101, 97, 114]) (X : Qr.PR) (hX : X = match Qr.fieldOf tt with | none => none | some f => Qr.pTerm true f r.tail.tail) :
    Calls Tryz.prog 87 #[.pointer (some ⟨g, 0, none⟩)] w fun e w' => Qr.Res g l X w e w' := by
  have hsl := hP.suf.length_le
  have hll := hP.len
  have hgl := hP.lt
  obtain ⟨ta, tc, kg, _, _⟩ := hP.blk
  obtain ⟨A, hA⟩ : ∃ A, l.length - r.length = A := ⟨_, rfl⟩
  rw [hA] at kg
  have hP0 := hP.below (Tx.newb w (.cells Qr.zeroQ 25))
  have KG := Lib.hid kg; clear kg
  have HPP := Lib.hid hP; clear hP
  have hk1 := Qr.begins_ne hb
  have hte := Qr.tail_eats hk1
  have L0 := fun w h => look0 (K := K) (w := w) (g := g) (l := l) ht hK h
  have HB := Lib.hid hb; clear hb
  have HTE := Lib.hid hte; clear hk1
  have hA1 : (A : Int) + 1 = ((l.length - r.tail.length : Nat) : Int) := by have := hte.2; rw [List.length_tail] at this ⊢; omega
  have hw1 := IntWalk.i64_in ((A : Int) + 1) ⟨by omega, by omega⟩
  have HA1 := Lib.hid hA1; clear hA1 hte ht hK
  subst hK4; subst hN5; subst hg1
  have hk2 : (Qr.lk r.tail).k ≠ 0 := by rw [show Qr.lk r.tail = ⟨nk, nt, true⟩ from hn]; intro h0; have h0' : nk = 0 := h0; rw [h0'] at hN; simp at hN
  have htt := (Qr.tail_eats hk2).1.trans HTE.out.1
  have hA2 : (A : Int) + 2 = ((l.length - r.tail.tail.length : Nat) : Int) := by
    have h1 := HA1.out
    have h2 := (Qr.tail_eats hk2).2
    have h3 := HTE.out.1.length_le
    rw [List.length_tail (l := r.tail)] at h2 ⊢
    omega
  have hw2 := IntWalk.i64_in ((A : Int) + 2) ⟨by omega, by omega⟩
  have HA2 := Lib.hid hA2
  have HTT : Hid (r.tail.tail <:+ r ∧ True) := Lib.hid ⟨htt, trivial⟩
  have L1 := fun w h => look1 (K := 58) (w := w) (g := g) (l := l) hn hN h
  have L2 := fun w h => look0 (r := r.tail.tail) (K := K2) (w := w) (g := g) (l := l) ht2 hK2 h
  clear hN hn ht2 hK2 hA2 htt hk2
  subst hg2
  have n40 : (K2 == 40) = false := beq_eq_false_iff_ne.2 h40
  have HB2 := Lib.hid hb2; clear hb2
  have HW2 := Lib.hid hwt; clear hwt
  have HX := Lib.hid hX; clear hX
  have ny : (tt == ([121, 101, 97, 114] : List UInt8)) = false := beq_eq_false_iff_ne.2 hty
  go_enter Tryz.func87, Tryz.ntmps87
  go_wp2_with (first
    | (go_at_call 57; refine (names_c _).mono ?_; rintro e w8 ⟨rfl, rfl⟩; have KT8 := Lib.hid (Tx.blk_later KT7.out (Tx.newb w7 (.cells #[.string ⟨#[97, 110, 121]⟩, .string ⟨#[116, 105]⟩, .string ⟨#[97, 117]⟩, .string ⟨#[115, 117]⟩, .string ⟨#[110, 117]⟩] 9))); have KR8 := Lib.hid (Tx.blk_later KR7.out (Tx.newb w7 (.cells #[.string ⟨#[97, 110, 121]⟩, .string ⟨#[116, 105]⟩, .string ⟨#[97, 117]⟩, .string ⟨#[115, 117]⟩, .string ⟨#[110, 117]⟩] 9))); have hF8 : Qr.Fr g w (w7.alloc (.cells #[.string ⟨#[97, 110, 121]⟩, .string ⟨#[116, 105]⟩, .string ⟨#[97, 117]⟩, .string ⟨#[115, 117]⟩, .string ⟨#[110, 117]⟩] 9)) := hF7.alloc _; have hP8 : Qr.PS g l r.tail.tail (w7.alloc (.cells #[.string ⟨#[97, 110, 121]⟩, .string ⟨#[116, 105]⟩, .string ⟨#[97, 117]⟩, .string ⟨#[115, 117]⟩, .string ⟨#[110, 117]⟩] 9)) := hP7.below (Tx.newb w7 _); have KN8 : Hid ((w7.alloc (.cells #[.string ⟨#[97, 110, 121]⟩, .string ⟨#[116, 105]⟩, .string ⟨#[97, 117]⟩, .string ⟨#[115, 117]⟩, .string ⟨#[110, 117]⟩] 9)).heap[w7.heap.size]? = some (.cells #[.string ⟨#[97, 110, 121]⟩, .string ⟨#[116, 105]⟩, .string ⟨#[97, 117]⟩, .string ⟨#[115, 117]⟩, .string ⟨#[110, 117]⟩] 9 (0, 0))) := Lib.hid (heap_alloc_new w7 _); have s8 : (w7.alloc (.cells #[.string ⟨#[97, 110, 121]⟩, .string ⟨#[116, 105]⟩, .string ⟨#[97, 117]⟩, .string ⟨#[115, 117]⟩, .string ⟨#[110, 117]⟩] 9)).heap.size = w7.heap.size + 1 := (by simp))
    | (go_at_call 76; refine (L2 _ hP6).mono ?_; rintro e w7 ⟨rfl, hb7⟩; have s7 := hb7.size; have KT7 := Lib.hid (Tx.blk_later KT6.out hb7); have KR7 := Lib.hid (Tx.blk_later KR6.out hb7); have hF7 := hF6.trans (.of_below hb7); have hP7 := hP6.below hb7; have e71 : w7.cell? ⟨w2.heap.size, 1, none⟩ = some (.string ⟨tt.toArray⟩) := (Tx.blk KT7.out).1 1)
    | (go_at_call 75; refine (begins_c g l _ _ hP5).mono ?_; rintro e w6 ⟨rfl, hb6⟩; have s6 := hb6.size; have KT6 := Lib.hid (Tx.blk_later KT5.out hb6); have KR6 := Lib.hid (Tx.blk_later KR5.out hb6); have hF6 := hF5.trans (.of_below hb6); have hP6 := hP5.below hb6; rw [HB2.out])
    | (go_at_call 76; refine (L2 _ hP4).mono ?_; rintro e w5 ⟨rfl, hb5⟩; have s5 := hb5.size; have KT5 := Lib.hid (Tx.blk_later KT4.out hb5); have KR5 := Lib.hid (Tx.blk_later KR4.out hb5); have hF5 := hF4.trans (.of_below hb5); have hP5 := hP4.below hb5; clear eg fg eg3 fg3 e30)
    | (go_at_call 76; refine (L1 _ hP2).mono ?_; rintro e w3 ⟨rfl, hb3⟩; have s3 := hb3.size; simp only [World.size_alloc] at s3; have kT3 : (w3.alloc (.cells #[.int .u8 58, .string ⟨nt.toArray⟩, .bool true] 77)).heap[w2.heap.size]? = some (.cells #[.int .u8 114, .string ⟨tt.toArray⟩, .bool tg] 77 (0, 0)) := Tx.blk_later (Tx.blk_later KT2.out hb3) (Tx.newb w3 _); have kg3 : (w3.alloc (.cells #[.int .u8 58, .string ⟨nt.toArray⟩, .bool true] 77)).heap[g]? = some (.cells #[.slice ta l.length tc, .int .i64 (A : Int)] 44 (0, 0)) := Tx.blk_later (Tx.blk_later KG2.out hb3) (Tx.newb w3 _); have kR3 : (w3.alloc (.cells #[.int .u8 58, .string ⟨nt.toArray⟩, .bool true] 77)).heap[w.heap.size]? = some (.cells Qr.zeroQ 25 (0, 0)) := Tx.blk_later (Tx.blk_later KR2.out hb3) (Tx.newb w3 _); have hF3 : Qr.Fr g w (w3.alloc (.cells #[.int .u8 58, .string ⟨nt.toArray⟩, .bool true] 77)) := (hF2.trans (.of_below hb3)).alloc _; have hP3 : Qr.PS g l r (w3.alloc (.cells #[.int .u8 58, .string ⟨nt.toArray⟩, .bool true] 77)) := (hP2.below hb3).below (Tx.newb w3 _); have e30 : (w3.alloc (.cells #[.int .u8 58, .string ⟨nt.toArray⟩, .bool true] 77)).cell? ⟨w2.heap.size, 0, none⟩ = some (.int .u8 114) := (Tx.blk kT3).1 0; have eg3 : (w3.alloc (.cells #[.int .u8 58, .string ⟨nt.toArray⟩, .bool true] 77)).cell? ⟨g, 1, none⟩ = some (.int .i64 (A : Int)) := (Tx.blk kg3).1 1; have fg3 : ∀ i, (w3.alloc (.cells #[.int .u8 58, .string ⟨nt.toArray⟩, .bool true] 77)).frozen? ⟨g, i, none⟩ = false := (Tx.blk kg3).2.1; have KT3 := Lib.hid kT3; have KG3 := Lib.hid kg3; have KR3 := Lib.hid kR3; clear kT3 kg3 kR3; have kg4 : ((w3.alloc (.cells #[.int .u8 58, .string ⟨nt.toArray⟩, .bool true] 77)).setCell ⟨g, 1, none⟩ (.int .i64 ((A : Int) + 2))).heap[g]? = some (.cells #[.slice ta l.length tc, .int .i64 ((A : Int) + 2)] 44 (0, 0)) := Qr.blk_set1 KG3.out _; have hF4 : Qr.Fr g w ((w3.alloc (.cells #[.int .u8 58, .string ⟨nt.toArray⟩, .bool true] 77)).setCell ⟨g, 1, none⟩ (.int .i64 ((A : Int) + 2))) := hF3.set rfl _; have hP4 : Qr.PS g l r.tail.tail ((w3.alloc (.cells #[.int .u8 58, .string ⟨nt.toArray⟩, .bool true] 77)).setCell ⟨g, 1, none⟩ (.int .i64 ((A : Int) + 2))) := Qr.PS.of HPP.out KG.out hF4 HTT.out.1 kg4 HA2.out; have kR4 := Tx.blk_far (a := ⟨g, 1, none⟩) KR3.out (show w.heap.size ≠ g by omega) (.int .i64 ((A : Int) + 2)); have kT4 := Tx.blk_far (a := ⟨g, 1, none⟩) KT3.out (show w2.heap.size ≠ g by omega) (.int .i64 ((A : Int) + 2)); have s4 : ((w3.alloc (.cells #[.int .u8 58, .string ⟨nt.toArray⟩, .bool true] 77)).setCell ⟨g, 1, none⟩ (.int .i64 ((A : Int) + 2))).heap.size = w3.heap.size + 1 := (by simp [World.setCell]); have KR4 := Lib.hid kR4; have KT4 := Lib.hid kT4; clear kg4 kR4 kT4)
    | (go_at_call 76; refine (L0 _ hP1).mono ?_; rintro e w2 ⟨rfl, hb2⟩; have s2 := hb2.size; have kT2 : (w2.alloc (.cells #[.int .u8 114, .string ⟨tt.toArray⟩, .bool tg] 77)).heap[w2.heap.size]? = some (.cells #[.int .u8 114, .string ⟨tt.toArray⟩, .bool tg] 77 (0, 0)) := heap_alloc_new _ _; have kg2 : (w2.alloc (.cells #[.int .u8 114, .string ⟨tt.toArray⟩, .bool tg] 77)).heap[g]? = some (.cells #[.slice ta l.length tc, .int .i64 (A : Int)] 44 (0, 0)) := Tx.blk_later (Tx.blk_later KG1.out hb2) (Tx.newb w2 _); have kR2 : (w2.alloc (.cells #[.int .u8 114, .string ⟨tt.toArray⟩, .bool tg] 77)).heap[w.heap.size]? = some (.cells Qr.zeroQ 25 (0, 0)) := Tx.blk_later (Tx.blk_later KR1.out hb2) (Tx.newb w2 _); have hF2 : Qr.Fr g w (w2.alloc (.cells #[.int .u8 114, .string ⟨tt.toArray⟩, .bool tg] 77)) := (hF1.trans (.of_below hb2)).alloc _; have hP2 : Qr.PS g l r (w2.alloc (.cells #[.int .u8 114, .string ⟨tt.toArray⟩, .bool tg] 77)) := (hP1.below hb2).below (Tx.newb w2 _); have eg : (w2.alloc (.cells #[.int .u8 114, .string ⟨tt.toArray⟩, .bool tg] 77)).cell? ⟨g, 1, none⟩ = some (.int .i64 (A : Int)) := (Tx.blk kg2).1 1; have fg : ∀ i, (w2.alloc (.cells #[.int .u8 114, .string ⟨tt.toArray⟩, .bool tg] 77)).frozen? ⟨g, i, none⟩ = false := (Tx.blk kg2).2.1; have KT2 := Lib.hid kT2; have KG2 := Lib.hid kg2; have KR2 := Lib.hid kR2; clear kT2 kg2 kR2)
    | (go_at_call 75; refine (begins_c g l r _ hP0).mono ?_; rintro e w1 ⟨rfl, hb1⟩; rw [HB.out]; have hP1 := hP0.below hb1; have s1 : w.heap.size < w1.heap.size := (by have := hb1.size; simp at this; omega); have KG1 := Lib.hid (Tx.blk_later (Tx.blk_later KG.out (Tx.newb w _)) hb1); have KR1 : Hid (w1.heap[w.heap.size]? = some (.cells Qr.zeroQ 25 (0, 0))) := Lib.hid (Tx.blk_later (heap_alloc_new w _) hb1); have hF1 : Qr.Fr g w w1 := ((Qr.Fr.refl g w).alloc _).trans (.of_below hb1)))
  have hsame : ∃ W9, W9 = (w7.alloc (.cells #[.string ⟨#[97, 110, 121]⟩, .string ⟨#[116, 105]⟩, .string ⟨#[97, 117]⟩, .string ⟨#[115, 117]⟩, .string ⟨#[110, 117]⟩] 9)) := ⟨_, rfl⟩
  obtain ⟨W9, hW9⟩ := hsame
  have KT9 : Hid (W9.heap[w2.heap.size]? = some (.cells #[.int .u8 114, .string ⟨tt.toArray⟩, .bool tg] 77 (0, 0))) := Lib.hid (by rw [hW9]; exact KT8.out)
  have KR9 : Hid (W9.heap[w.heap.size]? = some (.cells Qr.zeroQ 25 (0, 0))) := Lib.hid (by rw [hW9]; exact KR8.out)
  have KN9 : Hid (W9.heap[w7.heap.size]? = some (.cells #[.string ⟨#[97, 110, 121]⟩, .string ⟨#[116, 105]⟩, .string ⟨#[97, 117]⟩, .string ⟨#[115, 117]⟩, .string ⟨#[110, 117]⟩] 9 (0, 0))) := Lib.hid (by rw [hW9]; exact KN8.out)
  have hF9 : Qr.Fr g w W9 := by rw [hW9]; exact hF8
  have hP9 : Qr.PS g l r.tail.tail W9 := by rw [hW9]; exact hP8
  have s9 : W9.heap.size = w7.heap.size + 1 := by rw [hW9]; exact s8
  rw [← hW9]
  clear hW9 KT8 KR8 KN8 hF8 hP8 s8
  go_loopw [87] (fun i wr => ∃ k : Nat, k ≤ 5 ∧ i = .int .i64 k ∧ Hid (∀ x ∈ Qr.nms.take k, x ≠ tt) ∧ wr = W9) (fun i _ => 5 - (intOf i).toNat)
  case atStart => exact ⟨0, by omega, rfl, Lib.hid (by simp), rfl⟩
  case round =>
    obtain ⟨k, hk, rfl, hne, hwr⟩ := hrel
    have hwr' : W9 = wr := hwr.symm
    clear hwr
    subst hwr'
    have et : W9.cell? ⟨w2.heap.size, 1, none⟩ = some (.string ⟨tt.toArray⟩) := (Tx.blk KT9.out).1 1
    by_cases hlt : k < 5
    · obtain ⟨x, hx⟩ : ∃ x, Qr.nms[k]? = some x := ⟨_, List.getElem?_eq_getElem (by show k < 5; exact hlt)⟩
      have ex := Qr.nms_cell KN9.out hx
      by_cases hxt : x = tt
      · have hxt' : tt = x := hxt.symm
        clear hxt
        subst hxt'
        have HF : Hid (Qr.fieldOf tt = some (k : Int)) := Lib.hid (Qr.fieldOf_at hx)
        clear hx
        cases hT : Qr.pTerm true 0 r.tail.tail with
        | none =>
          have HT := Lib.hid hT; clear hT
          have HXN : Hid (X = none) := Lib.hid (by rw [HX.out, HF.out]; simp only; rw [Qr.pTerm_f, HT.out]; rfl)
          go_wp2_with (first
            | (go_at_call 96; refine (term_c g l _ W9 hP9 HW2.out).mono ?_; rintro e w10 h10; rw [HT.out] at h10; obtain ⟨rfl, hF10⟩ := h10.bad; have hF10' := hF9.trans hF10))
          refine ⟨rfl, ?_⟩
          rw [HXN.out]
          exact ⟨rfl, hF10'⟩
        | some p =>
          obtain ⟨q, r'⟩ := p
          have HT := Lib.hid hT; clear hT
          have HXN : Hid (X = some (q.withF k, r')) := Lib.hid (by rw [HX.out, HF.out]; simp only; rw [Qr.pTerm_f, HT.out]; rfl)
          go_wp2_with (first
            | (go_at_call 96; refine (term_c g l _ W9 hP9 HW2.out).mono ?_; rintro e w10 h10; rw [HT.out] at h10; obtain ⟨qo, qf, qa, qb, qsa, qsn, qsc, qka, qkn, qkc, rfl, hq10, hP10, hF10⟩ := h10.get; have s10 := hF10.size; have hF10' := hF9.trans hF10; have kR10 := (hF10.block w.heap.size (by omega) (by omega)).trans KR9.out; have kR11 : (w10.alloc (.cells #[.int .i64 qo, .int .i64 (k : Int), .slice qsa qsn qsc, .int .i64 qa, .int .i64 qb, .slice qka qkn qkc] 25)).heap[w.heap.size]? = some (.cells Qr.zeroQ 25 (0, 0)) := Tx.blk_later kR10 (Tx.newb w10 _); have z0 : (w10.alloc (.cells #[.int .i64 qo, .int .i64 (k : Int), .slice qsa qsn qsc, .int .i64 qa, .int .i64 qb, .slice qka qkn qkc] 25)).cell? ⟨w.heap.size, 0, none⟩ = some (.int .i64 0) := (Tx.blk kR11).1 0; have z1 : (w10.alloc (.cells #[.int .i64 qo, .int .i64 (k : Int), .slice qsa qsn qsc, .int .i64 qa, .int .i64 qb, .slice qka qkn qkc] 25)).cell? ⟨w.heap.size, 1, none⟩ = some (.int .i64 0) := (Tx.blk kR11).1 1; have z2 : (w10.alloc (.cells #[.int .i64 qo, .int .i64 (k : Int), .slice qsa qsn qsc, .int .i64 qa, .int .i64 qb, .slice qka qkn qkc] 25)).cell? ⟨w.heap.size, 2, none⟩ = some (.slice none 0 0) := (Tx.blk kR11).1 2; have z3 : (w10.alloc (.cells #[.int .i64 qo, .int .i64 (k : Int), .slice qsa qsn qsc, .int .i64 qa, .int .i64 qb, .slice qka qkn qkc] 25)).cell? ⟨w.heap.size, 3, none⟩ = some (.int .i64 0) := (Tx.blk kR11).1 3; have z4 : (w10.alloc (.cells #[.int .i64 qo, .int .i64 (k : Int), .slice qsa qsn qsc, .int .i64 qa, .int .i64 qb, .slice qka qkn qkc] 25)).cell? ⟨w.heap.size, 4, none⟩ = some (.int .i64 0) := (Tx.blk kR11).1 4; have z5 : (w10.alloc (.cells #[.int .i64 qo, .int .i64 (k : Int), .slice qsa qsn qsc, .int .i64 qa, .int .i64 qb, .slice qka qkn qkc] 25)).cell? ⟨w.heap.size, 5, none⟩ = some (.slice none 0 0) := (Tx.blk kR11).1 5; have fr11 : ∀ i, (w10.alloc (.cells #[.int .i64 qo, .int .i64 (k : Int), .slice qsa qsn qsc, .int .i64 qa, .int .i64 qb, .slice qka qkn qkc] 25)).frozen? ⟨w.heap.size, i, none⟩ = false := (Tx.blk kR11).2.1; obtain ⟨ta4, tc4, kg4, _, _⟩ := hP10.blk; have KP4 := Lib.hid kg4; clear kg4 kR10 kR11))
          refine bodyPost_ret (v := .agg #[.int .i64 qo, .int .i64 k, .slice qsa qsn qsc, .int .i64 qa, .int .i64 qb, .slice qka qkn qkc]) (by simp [results, Tryz.results87, go_sem, z0, z1, z2, z3, z4, z5]) rfl ?_
          rw [HXN.out]
          exact ⟨⟨qo, k, qsa, qsn, qsc, qa, qb, qka, qkn, qkc⟩, rfl, ((hq10.setF k).kp (Qr.Kp.put6 (Qr.Kp.below (Tx.newb w10 _)) (by omega) _ _ _ _ _ _)).mono (by omega), Qr.PS.of' hP10 KP4.out (Tx.put6 ((Below.refl _ _).alloc (by omega) _) (by omega) _ _ _ _ _ _) (List.suffix_refl _) (Qr.far6 (Tx.blk_later KP4.out (Tx.newb w10 _)) (show g ≠ w.heap.size by omega) _ _ _ _ _ _) rfl, Qr.Fr.put6 (hF10'.alloc _) (Nat.le_refl _) _ _ _ _ _ _⟩
      · have hxb : (x == tt) = false := beq_eq_false_iff_ne.2 hxt
        have HN2 : Hid (∀ y ∈ Qr.nms.take (k + 1), y ≠ tt) := Lib.hid (by
          rw [Qr.take_snoc hx]
          intro y hy
          rw [List.mem_append, List.mem_singleton] at hy
          rcases hy with hy | rfl
          · exact hne.out y hy
          · exact hxt)
        clear hx
        go_wp2
        go_roundw
        case rel => exact ⟨k + 1, by omega, by go_num, HN2, trivial⟩
        case measure => simp [intOf]; omega
    · have hkk : k = 5 := by omega
      subst hkk
      have HXN : Hid (X = none) := Lib.hid (by rw [HX.out, Qr.fieldOf_none (fun x hx => hne.out x hx)])
      go_wp2
      refine ⟨rfl, ?_⟩
      rw [HXN.out]
      exact ⟨rfl, hF9⟩
end Go.Proofs.YtkahplbjbidemaaGreatDoor

/- A primary is read: all ways together. -/
namespace Go.Proofs.YtkahplbjbidemaaGreatDoor
open Go.RowKit
set_option maxRecDepth 100000

namespace Qr
theorem begins_word {r : List Tok} (h : begins r = true) (h40 : (lk r).k ≠ 40) : word0 r = true := by
  unfold begins at h
  simp only [Bool.or_eq_true, beq_iff_eq] at h
  rcases h with h | h
  · exact absurd h h40
  · exact h
theorem word_begins {r : List Tok} (h : word0 r = true) : begins r = true := by unfold begins; rw [h]; simp
theorem not_begins {r : List Tok} (h : begins r = false) : word0 r = false ∧ (lk r).k ≠ 40 := by
  unfold begins at h
  simp only [Bool.or_eq_false_iff, beq_eq_false_iff_ne] at h
  exact ⟨h.2, h.1⟩
end Qr

theorem prim_c (g n : Nat) (l : List Qr.Tok) (hOr : ∀ (r : List Qr.Tok) (w : World), 8 * r.length + 7 ≤ n → Qr.PS g l r w → Calls Tryz.prog 30 #[.pointer (some ⟨g, 0, none⟩)] w (Qr.Res g l (Qr.pOr true n r) w))
    (r : List Qr.Tok) (w : World) (hn : 8 * r.length + 4 ≤ n + 1) (hP : Qr.PS g l r w) :
    Calls Tryz.prog 87 #[.pointer (some ⟨g, 0, none⟩)] w (Qr.Res g l (Qr.pPrim true (n + 1) r) w) := by
  cases hb : Qr.begins r with
  | false =>
    have h1 := Qr.not_begins hb
    have e : Qr.pPrim true (n + 1) r = none := by
      unfold Qr.pPrim Qr.pFlat
      rw [if_neg h1.2, if_pos h1.1]
    rw [e]
    exact (prim_bad g l r w hP hb)
  | true =>
    obtain ⟨⟨kk, tt, tg⟩, ht⟩ : ∃ t, Qr.lk r = t := ⟨_, rfl⟩
    obtain ⟨⟨nk, nt, ng⟩, hnx⟩ : ∃ t, Qr.lk1 r = t := ⟨_, rfl⟩
    have hte := Qr.tail_eats (Qr.begins_ne hb)
    by_cases h40 : kk = 40
    · subst h40
      have hor := fun w h => hOr r.tail w (by have := hte.2; omega) h
      have e0 : Qr.pPrim true (n + 1) r = match Qr.pOr true n r.tail with
          | none => none
          | some (q, r') => if (Qr.lk r').k = 41 then some (q, r'.tail) else none := by
        rw [Qr.pPrim, if_pos (by rw [ht])]
        rfl
      cases ho : Qr.pOr true n r.tail with
      | none =>
        rw [ho] at hor e0
        rw [e0]
        exact prim_par_none g l r w hP 40 tt tg _ ht rfl hb rfl none hor rfl
      | some p =>
        obtain ⟨q, r'⟩ := p
        rw [ho] at hor e0
        have hsuf := ((Qr.eats_all true n).1 r.tail q r' ho).1.trans hte.1
        obtain ⟨⟨k5, t5, g5⟩, ht5⟩ : ∃ t, Qr.lk r' = t := ⟨_, rfl⟩
        by_cases h41 : k5 = 41
        · have e1 : Qr.pPrim true (n + 1) r = some (q, r'.tail) := by rw [e0]; simp only; rw [if_pos (by rw [ht5]; exact h41)]
          rw [e1]
          exact prim_par_ok g l r w hP 40 tt tg _ ht rfl hb rfl _ hor q r' rfl k5 t5 g5 _ ht5 rfl hsuf h41
        · have e1 : Qr.pPrim true (n + 1) r = none := by rw [e0]; simp only; rw [if_neg (by rw [ht5]; exact h41)]
          rw [e1]
          exact prim_par_bad g l r w hP 40 tt tg _ ht rfl hb rfl _ hor q r' rfl k5 t5 g5 _ ht5 rfl h41
    · have hk : (Qr.lk r).k ≠ 40 := by rw [ht]; exact h40
      have hK : ¬ ((kk.toNat : Int) = 40) := fun h => h40 (UInt8.toNat_inj.1 (by rw [show (40 : UInt8).toNat = 40 from rfl]; omega))
      have hw := Qr.begins_word hb hk
      have e0 : Qr.pPrim true (n + 1) r = Qr.pFlat true r := by rw [Qr.pPrim, if_neg hk]
      rw [e0]
      have hkk := Qr.word0_k ht hw
      by_cases h58 : Qr.glue 58 r = true
      · have hgl := h58
        rw [Qr.glue_eq ht hnx] at hgl
        simp only [Bool.and_eq_true, beq_iff_eq] at hgl
        obtain ⟨⟨rfl, rfl⟩, rfl⟩ := hgl
        obtain ⟨⟨k2, t2, g2⟩, ht2⟩ : ∃ t, Qr.lk r.tail.tail = t := ⟨_, rfl⟩
        have e1 : Qr.pFlat true r = if g2 = false then none else if Qr.word0 r.tail.tail = false then none else if tt = [121, 101, 97, 114] then Qr.pYears true r.tail.tail else match Qr.fieldOf tt with
            | none => none
            | some f => Qr.pTerm true f r.tail.tail := by
          unfold Qr.pFlat
          rw [if_neg (by simp [hw]), if_pos h58, ht2, ht]
          rfl
        cases g2 with
        | false =>
          rw [e1, if_pos rfl]
          exact prim_unglued g l r w hP 114 tt tg _ ht rfl hb 58 nt true _ hnx rfl rfl rfl rfl k2 t2 false _ ht2 rfl rfl
        | true =>
          rw [if_neg (by simp)] at e1
          cases hb2 : Qr.begins r.tail.tail with
          | false =>
            rw [e1, if_pos (Qr.not_begins hb2).1]
            exact prim_nobeg g l r w hP 114 tt tg _ ht rfl hb 58 nt true _ hnx rfl rfl rfl rfl k2 t2 true _ ht2 rfl rfl hb2
          | true =>
            by_cases h2 : k2 = 40
            · have hw2 : Qr.word0 r.tail.tail = false := by
                unfold Qr.word0
                rw [ht2]
                simp [h2]
              rw [e1, if_pos hw2]
              exact prim_par2 g l r w hP 114 tt tg _ ht rfl hb 58 nt true _ hnx rfl rfl rfl rfl k2 t2 true _ ht2 rfl rfl hb2 (by rw [h2]; rfl)
            · have hK2 : ¬ ((k2.toNat : Int) = 40) := fun h => h2 (UInt8.toNat_inj.1 (by rw [show (40 : UInt8).toNat = 40 from rfl]; omega))
              have hw2 := Qr.begins_word hb2 (by rw [ht2]; exact h2)
              rw [if_neg (by simp [hw2])] at e1
              by_cases hty : tt = [121, 101, 97, 114]
              · rw [e1, if_pos hty]
                cases hx : Qr.pYears true r.tail.tail with
                | none => exact prim_year_none g l r w hP 114 tt tg _ ht rfl hb 58 nt true _ hnx rfl rfl rfl rfl k2 t2 true _ ht2 rfl rfl hb2 hK2 hw2 hty hx
                | some p => exact prim_year_ok g l r w hP 114 tt tg _ ht rfl hb 58 nt true _ hnx rfl rfl rfl rfl k2 t2 true _ ht2 rfl rfl hb2 hK2 hw2 hty p.1 p.2 hx
              · rw [e1, if_neg hty]
                exact prim_name g l r w hP 114 tt tg _ ht rfl hb 58 nt true _ hnx rfl rfl rfl rfl k2 t2 true _ ht2 rfl rfl hb2 hK2 hw2 hty _ rfl
      · have h58' : Qr.glue 58 r = false := by simpa using h58
        have hp := h58'
        rw [Qr.glue_eq ht hnx] at hp
        have e1 : Qr.pFlat true r = Qr.pTerm true 0 r := by
          unfold Qr.pFlat
          rw [if_neg (by simp [hw]), if_neg h58]
        rw [e1]
        cases hx : Qr.pTerm true 0 r with
        | none => exact prim_dir_none g l r w hP kk tt tg _ ht rfl hb nk nt ng _ hnx rfl hw hK (Qr.no_glue (c := 58) hkk hp) hx
        | some p => exact prim_dir_ok g l r w hP kk tt tg _ ht rfl hb nk nt ng _ hnx rfl hw hK (Qr.no_glue (c := 58) hkk hp) p.1 p.2 hx
end Go.Proofs.YtkahplbjbidemaaGreatDoor
