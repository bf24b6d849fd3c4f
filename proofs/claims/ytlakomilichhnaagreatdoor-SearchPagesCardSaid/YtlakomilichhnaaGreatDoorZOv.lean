/- Texts of this seat's, what the claim needs of them. -/
import Derived.Test.YtlakomilichhnaaGreatDoorZOu
import Derived.Deep.RegionHeld3
namespace Go.Proofs.YtlakomilichhnaaGreatDoor
open Go.RowKit
set_option maxRecDepth 100000
attribute [local go_sem] Qr.run_tok0 Qr.run_tok1 Qr.run_tok2
theorem cut_c (tt x y : List UInt8) (b : Bool) (w : World) (hG : G w) (hs : tt.length ≤ 1000) (h : Lib.cut tt [45] = (x, y, b)) :
  Calls Tryz.prog 93 #[.string ⟨tt.toArray⟩, .string ⟨#[45]⟩] w fun e w' => e = .returned (.tuple #[.string ⟨x.toArray⟩, .string ⟨y.toArray⟩, .bool b]) ∧ Below w.heap.size w w' := by
 obtain ⟨m, hm⟩ := hG.m
 refine (Tryz.strings_Cut ⟨tt.toArray⟩ ⟨#[45]⟩ m w (by rw [Tx.size_mk]; omega) hm).mono ?_
 rintro e w' ⟨rfl, q, rfl⟩
 refine ⟨?_, Tx.drawn (Below.refl _ _) _⟩
 rw [show (⟨tt.toArray⟩ : ByteArray).data.toList = tt from rfl, show (⟨#[45]⟩ : ByteArray).data.toList = [45] from rfl, h]
theorem year_some {x : List UInt8} {n : Nat} (h : Qr.yearN x = some n) (hs : x.length ≤ 1000) (w : World) (hG : G w) :
  Calls Tryz.prog 308 #[.string ⟨x.toArray⟩] w fun e w' => e = .returned (.int .i64 (n : Int)) ∧ Below w.heap.size w w' := by
 refine (year_c ⟨x.toArray⟩ w (by rw [Tx.size_mk]; omega) hG).mono ?_
 rintro e w' ⟨h1, h2⟩
 rw [show (⟨x.toArray⟩ : ByteArray).data.toList = x from rfl, h] at h1
 exact ⟨h1, h2⟩
theorem year_none {x : List UInt8} (h : Qr.yearN x = none) (hs : x.length ≤ 1000) (w : World) (hG : G w) :
  Calls Tryz.prog 308 #[.string ⟨x.toArray⟩] w fun e w' => e = .panicked [{ v := Qr.wrongP, recovered := false }] ∧ Below w.heap.size w w' := by
 refine (year_c ⟨x.toArray⟩ w (by rw [Tx.size_mk]; omega) hG).mono ?_
 rintro e w' ⟨h1, h2⟩
 rw [show (⟨x.toArray⟩ : ByteArray).data.toList = x from rfl, h] at h1
 exact ⟨h1, h2⟩
set_option maxHeartbeats 1600000 in
theorem years_glue (g : Nat) (l r : List Qr.Tok) (w : World) (hP : Qr.PS g l r w) (kk nk : UInt8) (tt nt : List UInt8) (tg ng : Bool) (K N : Int) (ht : Qr.lk r = ⟨kk, tt, tg⟩) (hK : (kk.toNat : Int) = K) (hn : Qr.lk1 r = ⟨nk, nt, ng⟩) (hN : (nk.toNat : Int) = N) (hk0 : kk ≠ 0) (h1 : N = 58) (h2 : ng = true) :
  Calls Tryz.prog 301 #[.pointer (some ⟨g, 0, none⟩)] w fun e w' => e = .panicked [{ v := Qr.wrongP, recovered := false }] ∧ Qr.Fr g w w' := by
 have hk1 : (Qr.lk r).k ≠ 0 := by rw [ht]; exact hk0
 have htok := hP.tok hk1
 rw [ht] at htok
 simp only at htok
 have hsz : tt.length ≤ 1000 := by omega
 have hte := Qr.tail_eats hk1
 have hsl := hP.suf.length_le
 have hll := hP.len
 have L0 := fun w h => look0 (K := K) (w := w) (g := g) (l := l) ht hK h
 have L1 := fun w h => look1 (K := N) (w := w) (g := g) (l := l) hn hN h
 obtain ⟨ta, tc, kg, _, _⟩ := hP.blk
 obtain ⟨A, hA⟩ : ∃ A, l.length - r.length = A := ⟨_, rfl⟩
 rw [hA] at kg
 have HAA := Lib.hid (show (A : Int) = ((l.length - r.length : Nat) : Int) by omega)
 have hA1 : (A : Int) + 1 = ((l.length - r.tail.length : Nat) : Int) := by have := hte.2; rw [List.length_tail] at this ⊢; omega
 have hw1 := IntWalk.i64_in ((A : Int) + 1) ⟨by omega, by omega⟩
 have hgl := hP.lt
 have hP0 := hP.below (Tx.newb w (.cells Qr.zeroQ 29))
 have KG := Lib.hid kg; clear kg
 have HA1 := Lib.hid hA1; clear hA1
 have HV := Lib.hid htok.1; clear htok
 have HTE := Lib.hid hte; clear hte
 have HPP := Lib.hid hP; clear hP
 clear ht hn hK hN hk0 hA hk1
 subst h1; subst h2
 go_enter Tryz.func301, Tryz.ntmps301
 go_wp2_with (first
  | (go_at_call 252; refine (L1 _ (hP1.below (Tx.newb _ _))).mono ?_; rintro e w2 ⟨rfl, hb2⟩; have s1 : w.heap.size < w1.heap.size := (by have := hb1.size; simp at this; omega); have s2 : w1.heap.size < w2.heap.size := (by have := hb2.size; simp at this; omega); have kT2 : (w2.alloc (.cells #[.int .u8 58, .string ⟨nt.toArray⟩, .bool true] 205)).heap[w1.heap.size]? = some (.cells #[.int .u8 K, .string ⟨tt.toArray⟩, .bool tg] 205 (0, 0)) := Tx.blk_later (Tx.blk_later (heap_alloc_new w1 (.cells #[.int .u8 K, .string ⟨tt.toArray⟩, .bool tg] 205)) hb2) (Tx.newb w2 _); have kg2 : (w2.alloc (.cells #[.int .u8 58, .string ⟨nt.toArray⟩, .bool true] 205)).heap[g]? = some (.cells #[.slice ta l.length tc, .int .i64 (A : Int)] 129 (0, 0)) := Tx.blk_later (Tx.blk_later (Tx.blk_later (Tx.blk_later (Tx.blk_later KG.out (Tx.newb _ _)) hb1) (Tx.newb _ _)) hb2) (Tx.newb w2 _); have kR2 : (w2.alloc (.cells #[.int .u8 58, .string ⟨nt.toArray⟩, .bool true] 205)).heap[w.heap.size]? = some (.cells Qr.zeroQ 29 (0, 0)) := Tx.blk_later (Tx.blk_later (Tx.blk_later (Tx.blk_later (heap_alloc_new w _) hb1) (Tx.newb _ _)) hb2) (Tx.newb w2 _); have hF2 : Qr.Fr g w (w2.alloc (.cells #[.int .u8 58, .string ⟨nt.toArray⟩, .bool true] 205)) := (((((Qr.Fr.refl g w).alloc _).trans (.of_below hb1)).alloc _).trans (.of_below hb2)).alloc _; have e30 : (w2.alloc (.cells #[.int .u8 58, .string ⟨nt.toArray⟩, .bool true] 205)).cell? ⟨w1.heap.size, 0, none⟩ = some (.int .u8 K) := (Tx.blk kT2).1 0; have e31 : (w2.alloc (.cells #[.int .u8 58, .string ⟨nt.toArray⟩, .bool true] 205)).cell? ⟨w1.heap.size, 1, none⟩ = some (.string ⟨tt.toArray⟩) := (Tx.blk kT2).1 1; have hPS2 := Qr.PS.of HPP.out KG.out hF2 (List.suffix_refl _) kg2 HAA.out; have KG2 := Lib.hid kg2; have KT2 := Lib.hid kT2; have KR2 := Lib.hid kR2; clear kg2 kT2 kR2)
  | (go_at_call 252; refine (L0 _ hP0).mono ?_; rintro e w1 ⟨rfl, hb1⟩; have hP1 := hP0.below hb1))
 exact ⟨rfl, rfl, hF2⟩
set_option maxHeartbeats 1600000 in
theorem years_bad (g : Nat) (l r : List Qr.Tok) (w : World) (hP : Qr.PS g l r w) (kk nk : UInt8) (tt nt : List UInt8) (tg ng : Bool) (K N : Int) (ht : Qr.lk r = ⟨kk, tt, tg⟩) (hK : (kk.toNat : Int) = K) (hn : Qr.lk1 r = ⟨nk, nt, ng⟩) (hN : (nk.toNat : Int) = N) (hk0 : kk ≠ 0) (hpass : (N == 58) = false ∨ (N = 58 ∧ ng = false)) (x y : List UInt8) (b : Bool) (hcut : Lib.cut tt [45] = (x, y, b)) (hb : (K == 114) = false ∨ (K = 114 ∧ b = false)) :
  Calls Tryz.prog 301 #[.pointer (some ⟨g, 0, none⟩)] w fun e w' => e = .panicked [{ v := Qr.wrongP, recovered := false }] ∧ Qr.Fr g w w' := by
 have hk1 : (Qr.lk r).k ≠ 0 := by rw [ht]; exact hk0
 have htok := hP.tok hk1
 rw [ht] at htok
 simp only at htok
 have hsz : tt.length ≤ 1000 := by omega
 have hte := Qr.tail_eats hk1
 have hsl := hP.suf.length_le
 have hll := hP.len
 have L0 := fun w h => look0 (K := K) (w := w) (g := g) (l := l) ht hK h
 have L1 := fun w h => look1 (K := N) (w := w) (g := g) (l := l) hn hN h
 obtain ⟨ta, tc, kg, _, _⟩ := hP.blk
 obtain ⟨A, hA⟩ : ∃ A, l.length - r.length = A := ⟨_, rfl⟩
 rw [hA] at kg
 have HAA := Lib.hid (show (A : Int) = ((l.length - r.length : Nat) : Int) by omega)
 have hA1 : (A : Int) + 1 = ((l.length - r.tail.length : Nat) : Int) := by have := hte.2; rw [List.length_tail] at this ⊢; omega
 have hw1 := IntWalk.i64_in ((A : Int) + 1) ⟨by omega, by omega⟩
 have hgl := hP.lt
 have hP0 := hP.below (Tx.newb w (.cells Qr.zeroQ 29))
 have KG := Lib.hid kg; clear kg
 have HA1 := Lib.hid hA1; clear hA1
 have HV := Lib.hid htok.1; clear htok
 have HTE := Lib.hid hte; clear hte
 have HPP := Lib.hid hP; clear hP
 clear ht hn hK hN hk0 hA hk1
 have CUT := fun w h => cut_c tt x y b w h hsz hcut
 clear hcut
 rcases hb with hk | ⟨rfl, rfl⟩
 ·have hk2 : (K != 114) = true := by rw [bne, hk]; rfl
  have hk3 : ¬ K = 114 := beq_eq_false_iff_ne.1 hk
  rcases hpass with hp | ⟨rfl, rfl⟩
  ·go_enter Tryz.func301, Tryz.ntmps301
   go_wp2_with (first
    | (go_at_call 93; refine (CUT _ hPS2.gp.g).mono ?_; rintro e w3 ⟨rfl, hb3⟩; have s3 := hb3.size; have kT3 := Tx.blk_later KT2.out hb3; have kg3 := Tx.blk_later KG2.out hb3; have kR3 := Tx.blk_later KR2.out hb3; have hF3 := hF2.trans (.of_below hb3); have e50 : w3.cell? ⟨w1.heap.size, 0, none⟩ = some (.int .u8 K) := (Tx.blk kT3).1 0; have eg : w3.cell? ⟨g, 1, none⟩ = some (.int .i64 (A : Int)) := (Tx.blk kg3).1 1; have fg : ∀ i, w3.frozen? ⟨g, i, none⟩ = false := (Tx.blk kg3).2.1; have kg4 : (w3.setCell ⟨g, 1, none⟩ (.int .i64 ((A : Int) + 1))).heap[g]? = some (.cells #[.slice ta l.length tc, .int .i64 ((A : Int) + 1)] 129 (0, 0)) := Qr.blk_set1 kg3 _; have hF4 : Qr.Fr g w (w3.setCell ⟨g, 1, none⟩ (.int .i64 ((A : Int) + 1))) := hF3.set rfl _; have hPS4 : Qr.PS g l r.tail (w3.setCell ⟨g, 1, none⟩ (.int .i64 ((A : Int) + 1))) := Qr.PS.of HPP.out KG.out hF4 HTE.out.1 kg4 HA1.out; have kR4 := Tx.blk_far (a := ⟨g, 1, none⟩) kR3 (show w.heap.size ≠ g by omega) (.int .i64 ((A : Int) + 1)); have KG4 := Lib.hid kg4; have KR4 := Lib.hid kR4; clear kT3 kg3 kR3 kg4 kR4 e30 e31)
    | (go_at_call 252; refine (L1 _ (hP1.below (Tx.newb _ _))).mono ?_; rintro e w2 ⟨rfl, hb2⟩; have s1 : w.heap.size < w1.heap.size := (by have := hb1.size; simp at this; omega); have s2 : w1.heap.size < w2.heap.size := (by have := hb2.size; simp at this; omega); have kT2 : (w2.alloc (.cells #[.int .u8 N, .string ⟨nt.toArray⟩, .bool ng] 205)).heap[w1.heap.size]? = some (.cells #[.int .u8 K, .string ⟨tt.toArray⟩, .bool tg] 205 (0, 0)) := Tx.blk_later (Tx.blk_later (heap_alloc_new w1 (.cells #[.int .u8 K, .string ⟨tt.toArray⟩, .bool tg] 205)) hb2) (Tx.newb w2 _); have kg2 : (w2.alloc (.cells #[.int .u8 N, .string ⟨nt.toArray⟩, .bool ng] 205)).heap[g]? = some (.cells #[.slice ta l.length tc, .int .i64 (A : Int)] 129 (0, 0)) := Tx.blk_later (Tx.blk_later (Tx.blk_later (Tx.blk_later (Tx.blk_later KG.out (Tx.newb _ _)) hb1) (Tx.newb _ _)) hb2) (Tx.newb w2 _); have kR2 : (w2.alloc (.cells #[.int .u8 N, .string ⟨nt.toArray⟩, .bool ng] 205)).heap[w.heap.size]? = some (.cells Qr.zeroQ 29 (0, 0)) := Tx.blk_later (Tx.blk_later (Tx.blk_later (Tx.blk_later (heap_alloc_new w _) hb1) (Tx.newb _ _)) hb2) (Tx.newb w2 _); have hF2 : Qr.Fr g w (w2.alloc (.cells #[.int .u8 N, .string ⟨nt.toArray⟩, .bool ng] 205)) := (((((Qr.Fr.refl g w).alloc _).trans (.of_below hb1)).alloc _).trans (.of_below hb2)).alloc _; have e30 : (w2.alloc (.cells #[.int .u8 N, .string ⟨nt.toArray⟩, .bool ng] 205)).cell? ⟨w1.heap.size, 0, none⟩ = some (.int .u8 K) := (Tx.blk kT2).1 0; have e31 : (w2.alloc (.cells #[.int .u8 N, .string ⟨nt.toArray⟩, .bool ng] 205)).cell? ⟨w1.heap.size, 1, none⟩ = some (.string ⟨tt.toArray⟩) := (Tx.blk kT2).1 1; have hPS2 := Qr.PS.of HPP.out KG.out hF2 (List.suffix_refl _) kg2 HAA.out; have KG2 := Lib.hid kg2; have KT2 := Lib.hid kT2; have KR2 := Lib.hid kR2; clear kg2 kT2 kR2)
    | (go_at_call 252; refine (L0 _ hP0).mono ?_; rintro e w1 ⟨rfl, hb1⟩; have hP1 := hP0.below hb1))
   all_goals exact ⟨rfl, rfl, hF3⟩
  ·go_enter Tryz.func301, Tryz.ntmps301
   go_wp2_with (first
    | (go_at_call 93; refine (CUT _ hPS2.gp.g).mono ?_; rintro e w3 ⟨rfl, hb3⟩; have s3 := hb3.size; have kT3 := Tx.blk_later KT2.out hb3; have kg3 := Tx.blk_later KG2.out hb3; have kR3 := Tx.blk_later KR2.out hb3; have hF3 := hF2.trans (.of_below hb3); have e50 : w3.cell? ⟨w1.heap.size, 0, none⟩ = some (.int .u8 K) := (Tx.blk kT3).1 0; have eg : w3.cell? ⟨g, 1, none⟩ = some (.int .i64 (A : Int)) := (Tx.blk kg3).1 1; have fg : ∀ i, w3.frozen? ⟨g, i, none⟩ = false := (Tx.blk kg3).2.1; have kg4 : (w3.setCell ⟨g, 1, none⟩ (.int .i64 ((A : Int) + 1))).heap[g]? = some (.cells #[.slice ta l.length tc, .int .i64 ((A : Int) + 1)] 129 (0, 0)) := Qr.blk_set1 kg3 _; have hF4 : Qr.Fr g w (w3.setCell ⟨g, 1, none⟩ (.int .i64 ((A : Int) + 1))) := hF3.set rfl _; have hPS4 : Qr.PS g l r.tail (w3.setCell ⟨g, 1, none⟩ (.int .i64 ((A : Int) + 1))) := Qr.PS.of HPP.out KG.out hF4 HTE.out.1 kg4 HA1.out; have kR4 := Tx.blk_far (a := ⟨g, 1, none⟩) kR3 (show w.heap.size ≠ g by omega) (.int .i64 ((A : Int) + 1)); have KG4 := Lib.hid kg4; have KR4 := Lib.hid kR4; clear kT3 kg3 kR3 kg4 kR4 e30 e31)
    | (go_at_call 252; refine (L1 _ (hP1.below (Tx.newb _ _))).mono ?_; rintro e w2 ⟨rfl, hb2⟩; have s1 : w.heap.size < w1.heap.size := (by have := hb1.size; simp at this; omega); have s2 : w1.heap.size < w2.heap.size := (by have := hb2.size; simp at this; omega); have kT2 : (w2.alloc (.cells #[.int .u8 58, .string ⟨nt.toArray⟩, .bool false] 205)).heap[w1.heap.size]? = some (.cells #[.int .u8 K, .string ⟨tt.toArray⟩, .bool tg] 205 (0, 0)) := Tx.blk_later (Tx.blk_later (heap_alloc_new w1 (.cells #[.int .u8 K, .string ⟨tt.toArray⟩, .bool tg] 205)) hb2) (Tx.newb w2 _); have kg2 : (w2.alloc (.cells #[.int .u8 58, .string ⟨nt.toArray⟩, .bool false] 205)).heap[g]? = some (.cells #[.slice ta l.length tc, .int .i64 (A : Int)] 129 (0, 0)) := Tx.blk_later (Tx.blk_later (Tx.blk_later (Tx.blk_later (Tx.blk_later KG.out (Tx.newb _ _)) hb1) (Tx.newb _ _)) hb2) (Tx.newb w2 _); have kR2 : (w2.alloc (.cells #[.int .u8 58, .string ⟨nt.toArray⟩, .bool false] 205)).heap[w.heap.size]? = some (.cells Qr.zeroQ 29 (0, 0)) := Tx.blk_later (Tx.blk_later (Tx.blk_later (Tx.blk_later (heap_alloc_new w _) hb1) (Tx.newb _ _)) hb2) (Tx.newb w2 _); have hF2 : Qr.Fr g w (w2.alloc (.cells #[.int .u8 58, .string ⟨nt.toArray⟩, .bool false] 205)) := (((((Qr.Fr.refl g w).alloc _).trans (.of_below hb1)).alloc _).trans (.of_below hb2)).alloc _; have e30 : (w2.alloc (.cells #[.int .u8 58, .string ⟨nt.toArray⟩, .bool false] 205)).cell? ⟨w1.heap.size, 0, none⟩ = some (.int .u8 K) := (Tx.blk kT2).1 0; have e31 : (w2.alloc (.cells #[.int .u8 58, .string ⟨nt.toArray⟩, .bool false] 205)).cell? ⟨w1.heap.size, 1, none⟩ = some (.string ⟨tt.toArray⟩) := (Tx.blk kT2).1 1; have hPS2 := Qr.PS.of HPP.out KG.out hF2 (List.suffix_refl _) kg2 HAA.out; have KG2 := Lib.hid kg2; have KT2 := Lib.hid kT2; have KR2 := Lib.hid kR2; clear kg2 kT2 kR2)
    | (go_at_call 252; refine (L0 _ hP0).mono ?_; rintro e w1 ⟨rfl, hb1⟩; have hP1 := hP0.below hb1))
   all_goals exact ⟨rfl, rfl, hF3⟩
 ·rcases hpass with hp | ⟨rfl, rfl⟩
  ·go_enter Tryz.func301, Tryz.ntmps301
   go_wp2_with (first
    | (go_at_call 93; refine (CUT _ hPS2.gp.g).mono ?_; rintro e w3 ⟨rfl, hb3⟩; have s3 := hb3.size; have kT3 := Tx.blk_later KT2.out hb3; have kg3 := Tx.blk_later KG2.out hb3; have kR3 := Tx.blk_later KR2.out hb3; have hF3 := hF2.trans (.of_below hb3); have e50 : w3.cell? ⟨w1.heap.size, 0, none⟩ = some (.int .u8 114) := (Tx.blk kT3).1 0; have eg : w3.cell? ⟨g, 1, none⟩ = some (.int .i64 (A : Int)) := (Tx.blk kg3).1 1; have fg : ∀ i, w3.frozen? ⟨g, i, none⟩ = false := (Tx.blk kg3).2.1; have kg4 : (w3.setCell ⟨g, 1, none⟩ (.int .i64 ((A : Int) + 1))).heap[g]? = some (.cells #[.slice ta l.length tc, .int .i64 ((A : Int) + 1)] 129 (0, 0)) := Qr.blk_set1 kg3 _; have hF4 : Qr.Fr g w (w3.setCell ⟨g, 1, none⟩ (.int .i64 ((A : Int) + 1))) := hF3.set rfl _; have hPS4 : Qr.PS g l r.tail (w3.setCell ⟨g, 1, none⟩ (.int .i64 ((A : Int) + 1))) := Qr.PS.of HPP.out KG.out hF4 HTE.out.1 kg4 HA1.out; have kR4 := Tx.blk_far (a := ⟨g, 1, none⟩) kR3 (show w.heap.size ≠ g by omega) (.int .i64 ((A : Int) + 1)); have KG4 := Lib.hid kg4; have KR4 := Lib.hid kR4; clear kT3 kg3 kR3 kg4 kR4 e30 e31)
    | (go_at_call 252; refine (L1 _ (hP1.below (Tx.newb _ _))).mono ?_; rintro e w2 ⟨rfl, hb2⟩; have s1 : w.heap.size < w1.heap.size := (by have := hb1.size; simp at this; omega); have s2 : w1.heap.size < w2.heap.size := (by have := hb2.size; simp at this; omega); have kT2 : (w2.alloc (.cells #[.int .u8 N, .string ⟨nt.toArray⟩, .bool ng] 205)).heap[w1.heap.size]? = some (.cells #[.int .u8 114, .string ⟨tt.toArray⟩, .bool tg] 205 (0, 0)) := Tx.blk_later (Tx.blk_later (heap_alloc_new w1 (.cells #[.int .u8 114, .string ⟨tt.toArray⟩, .bool tg] 205)) hb2) (Tx.newb w2 _); have kg2 : (w2.alloc (.cells #[.int .u8 N, .string ⟨nt.toArray⟩, .bool ng] 205)).heap[g]? = some (.cells #[.slice ta l.length tc, .int .i64 (A : Int)] 129 (0, 0)) := Tx.blk_later (Tx.blk_later (Tx.blk_later (Tx.blk_later (Tx.blk_later KG.out (Tx.newb _ _)) hb1) (Tx.newb _ _)) hb2) (Tx.newb w2 _); have kR2 : (w2.alloc (.cells #[.int .u8 N, .string ⟨nt.toArray⟩, .bool ng] 205)).heap[w.heap.size]? = some (.cells Qr.zeroQ 29 (0, 0)) := Tx.blk_later (Tx.blk_later (Tx.blk_later (Tx.blk_later (heap_alloc_new w _) hb1) (Tx.newb _ _)) hb2) (Tx.newb w2 _); have hF2 : Qr.Fr g w (w2.alloc (.cells #[.int .u8 N, .string ⟨nt.toArray⟩, .bool ng] 205)) := (((((Qr.Fr.refl g w).alloc _).trans (.of_below hb1)).alloc _).trans (.of_below hb2)).alloc _; have e30 : (w2.alloc (.cells #[.int .u8 N, .string ⟨nt.toArray⟩, .bool ng] 205)).cell? ⟨w1.heap.size, 0, none⟩ = some (.int .u8 114) := (Tx.blk kT2).1 0; have e31 : (w2.alloc (.cells #[.int .u8 N, .string ⟨nt.toArray⟩, .bool ng] 205)).cell? ⟨w1.heap.size, 1, none⟩ = some (.string ⟨tt.toArray⟩) := (Tx.blk kT2).1 1; have hPS2 := Qr.PS.of HPP.out KG.out hF2 (List.suffix_refl _) kg2 HAA.out; have KG2 := Lib.hid kg2; have KT2 := Lib.hid kT2; have KR2 := Lib.hid kR2; clear kg2 kT2 kR2)
    | (go_at_call 252; refine (L0 _ hP0).mono ?_; rintro e w1 ⟨rfl, hb1⟩; have hP1 := hP0.below hb1))
   all_goals exact ⟨rfl, rfl, hF3⟩
  ·go_enter Tryz.func301, Tryz.ntmps301
   go_wp2_with (first
    | (go_at_call 93; refine (CUT _ hPS2.gp.g).mono ?_; rintro e w3 ⟨rfl, hb3⟩; have s3 := hb3.size; have kT3 := Tx.blk_later KT2.out hb3; have kg3 := Tx.blk_later KG2.out hb3; have kR3 := Tx.blk_later KR2.out hb3; have hF3 := hF2.trans (.of_below hb3); have e50 : w3.cell? ⟨w1.heap.size, 0, none⟩ = some (.int .u8 114) := (Tx.blk kT3).1 0; have eg : w3.cell? ⟨g, 1, none⟩ = some (.int .i64 (A : Int)) := (Tx.blk kg3).1 1; have fg : ∀ i, w3.frozen? ⟨g, i, none⟩ = false := (Tx.blk kg3).2.1; have kg4 : (w3.setCell ⟨g, 1, none⟩ (.int .i64 ((A : Int) + 1))).heap[g]? = some (.cells #[.slice ta l.length tc, .int .i64 ((A : Int) + 1)] 129 (0, 0)) := Qr.blk_set1 kg3 _; have hF4 : Qr.Fr g w (w3.setCell ⟨g, 1, none⟩ (.int .i64 ((A : Int) + 1))) := hF3.set rfl _; have hPS4 : Qr.PS g l r.tail (w3.setCell ⟨g, 1, none⟩ (.int .i64 ((A : Int) + 1))) := Qr.PS.of HPP.out KG.out hF4 HTE.out.1 kg4 HA1.out; have kR4 := Tx.blk_far (a := ⟨g, 1, none⟩) kR3 (show w.heap.size ≠ g by omega) (.int .i64 ((A : Int) + 1)); have KG4 := Lib.hid kg4; have KR4 := Lib.hid kR4; clear kT3 kg3 kR3 kg4 kR4 e30 e31)
    | (go_at_call 252; refine (L1 _ (hP1.below (Tx.newb _ _))).mono ?_; rintro e w2 ⟨rfl, hb2⟩; have s1 : w.heap.size < w1.heap.size := (by have := hb1.size; simp at this; omega); have s2 : w1.heap.size < w2.heap.size := (by have := hb2.size; simp at this; omega); have kT2 : (w2.alloc (.cells #[.int .u8 58, .string ⟨nt.toArray⟩, .bool false] 205)).heap[w1.heap.size]? = some (.cells #[.int .u8 114, .string ⟨tt.toArray⟩, .bool tg] 205 (0, 0)) := Tx.blk_later (Tx.blk_later (heap_alloc_new w1 (.cells #[.int .u8 114, .string ⟨tt.toArray⟩, .bool tg] 205)) hb2) (Tx.newb w2 _); have kg2 : (w2.alloc (.cells #[.int .u8 58, .string ⟨nt.toArray⟩, .bool false] 205)).heap[g]? = some (.cells #[.slice ta l.length tc, .int .i64 (A : Int)] 129 (0, 0)) := Tx.blk_later (Tx.blk_later (Tx.blk_later (Tx.blk_later (Tx.blk_later KG.out (Tx.newb _ _)) hb1) (Tx.newb _ _)) hb2) (Tx.newb w2 _); have kR2 : (w2.alloc (.cells #[.int .u8 58, .string ⟨nt.toArray⟩, .bool false] 205)).heap[w.heap.size]? = some (.cells Qr.zeroQ 29 (0, 0)) := Tx.blk_later (Tx.blk_later (Tx.blk_later (Tx.blk_later (heap_alloc_new w _) hb1) (Tx.newb _ _)) hb2) (Tx.newb w2 _); have hF2 : Qr.Fr g w (w2.alloc (.cells #[.int .u8 58, .string ⟨nt.toArray⟩, .bool false] 205)) := (((((Qr.Fr.refl g w).alloc _).trans (.of_below hb1)).alloc _).trans (.of_below hb2)).alloc _; have e30 : (w2.alloc (.cells #[.int .u8 58, .string ⟨nt.toArray⟩, .bool false] 205)).cell? ⟨w1.heap.size, 0, none⟩ = some (.int .u8 114) := (Tx.blk kT2).1 0; have e31 : (w2.alloc (.cells #[.int .u8 58, .string ⟨nt.toArray⟩, .bool false] 205)).cell? ⟨w1.heap.size, 1, none⟩ = some (.string ⟨tt.toArray⟩) := (Tx.blk kT2).1 1; have hPS2 := Qr.PS.of HPP.out KG.out hF2 (List.suffix_refl _) kg2 HAA.out; have KG2 := Lib.hid kg2; have KT2 := Lib.hid kT2; have KR2 := Lib.hid kR2; clear kg2 kT2 kR2)
    | (go_at_call 252; refine (L0 _ hP0).mono ?_; rintro e w1 ⟨rfl, hb1⟩; have hP1 := hP0.below hb1))
   all_goals exact ⟨rfl, rfl, hF3⟩
set_option maxHeartbeats 1600000 in
theorem years_n1 (g : Nat) (l r : List Qr.Tok) (w : World) (hP : Qr.PS g l r w) (kk nk : UInt8) (tt nt : List UInt8) (tg ng : Bool) (K N : Int) (ht : Qr.lk r = ⟨kk, tt, tg⟩) (hK : (kk.toNat : Int) = K) (hn : Qr.lk1 r = ⟨nk, nt, ng⟩) (hN : (nk.toNat : Int) = N) (hk0 : kk ≠ 0) (hpass : (N == 58) = false ∨ (N = 58 ∧ ng = false)) (x y : List UInt8) (hcut : Lib.cut tt [45] = (x, y, true)) (hxs : x.length ≤ 1000) (hK4 : K = 114) (h1 : Qr.yearN x = none) :
  Calls Tryz.prog 301 #[.pointer (some ⟨g, 0, none⟩)] w fun e w' => e = .panicked [{ v := Qr.wrongP, recovered := false }] ∧ Qr.Fr g w w' := by
 have hk1 : (Qr.lk r).k ≠ 0 := by rw [ht]; exact hk0
 have htok := hP.tok hk1
 rw [ht] at htok
 simp only at htok
 have hsz : tt.length ≤ 1000 := by omega
 have hte := Qr.tail_eats hk1
 have hsl := hP.suf.length_le
 have hll := hP.len
 have L0 := fun w h => look0 (K := K) (w := w) (g := g) (l := l) ht hK h
 have L1 := fun w h => look1 (K := N) (w := w) (g := g) (l := l) hn hN h
 obtain ⟨ta, tc, kg, _, _⟩ := hP.blk
 obtain ⟨A, hA⟩ : ∃ A, l.length - r.length = A := ⟨_, rfl⟩
 rw [hA] at kg
 have HAA := Lib.hid (show (A : Int) = ((l.length - r.length : Nat) : Int) by omega)
 have hA1 : (A : Int) + 1 = ((l.length - r.tail.length : Nat) : Int) := by have := hte.2; rw [List.length_tail] at this ⊢; omega
 have hw1 := IntWalk.i64_in ((A : Int) + 1) ⟨by omega, by omega⟩
 have hgl := hP.lt
 have hP0 := hP.below (Tx.newb w (.cells Qr.zeroQ 29))
 have KG := Lib.hid kg; clear kg
 have HA1 := Lib.hid hA1; clear hA1
 have HV := Lib.hid htok.1; clear htok
 have HTE := Lib.hid hte; clear hte
 have HPP := Lib.hid hP; clear hP
 clear ht hn hK hN hk0 hA hk1
 have CUT := fun w h => cut_c tt x y true w h hsz hcut
 have Y1 := fun w h => year_none h1 hxs w h
 clear hcut h1 hxs
 subst hK4
 rcases hpass with hp | ⟨rfl, rfl⟩
 ·go_enter Tryz.func301, Tryz.ntmps301
  go_wp2_with (first
   | (go_at_call 308; refine (Y1 _ hPS4.gp.g).mono ?_; rintro e w5 ⟨rfl, hb5⟩; have s5 := hb5.size; have KG5 := Lib.hid (Tx.blk_later KG4.out hb5); have KR5 := Lib.hid (Tx.blk_later KR4.out hb5); have hF5 := hF4.trans (.of_below hb5); have hG5 := (hPS4.below hb5).gp.g)
   | (go_at_call 93; refine (CUT _ hPS2.gp.g).mono ?_; rintro e w3 ⟨rfl, hb3⟩; have s3 := hb3.size; have kT3 := Tx.blk_later KT2.out hb3; have kg3 := Tx.blk_later KG2.out hb3; have kR3 := Tx.blk_later KR2.out hb3; have hF3 := hF2.trans (.of_below hb3); have e50 : w3.cell? ⟨w1.heap.size, 0, none⟩ = some (.int .u8 114) := (Tx.blk kT3).1 0; have eg : w3.cell? ⟨g, 1, none⟩ = some (.int .i64 (A : Int)) := (Tx.blk kg3).1 1; have fg : ∀ i, w3.frozen? ⟨g, i, none⟩ = false := (Tx.blk kg3).2.1; have kg4 : (w3.setCell ⟨g, 1, none⟩ (.int .i64 ((A : Int) + 1))).heap[g]? = some (.cells #[.slice ta l.length tc, .int .i64 ((A : Int) + 1)] 129 (0, 0)) := Qr.blk_set1 kg3 _; have hF4 : Qr.Fr g w (w3.setCell ⟨g, 1, none⟩ (.int .i64 ((A : Int) + 1))) := hF3.set rfl _; have hPS4 : Qr.PS g l r.tail (w3.setCell ⟨g, 1, none⟩ (.int .i64 ((A : Int) + 1))) := Qr.PS.of HPP.out KG.out hF4 HTE.out.1 kg4 HA1.out; have kR4 := Tx.blk_far (a := ⟨g, 1, none⟩) kR3 (show w.heap.size ≠ g by omega) (.int .i64 ((A : Int) + 1)); have KG4 := Lib.hid kg4; have KR4 := Lib.hid kR4; clear kT3 kg3 kR3 kg4 kR4 e30 e31)
   | (go_at_call 252; refine (L1 _ (hP1.below (Tx.newb _ _))).mono ?_; rintro e w2 ⟨rfl, hb2⟩; have s1 : w.heap.size < w1.heap.size := (by have := hb1.size; simp at this; omega); have s2 : w1.heap.size < w2.heap.size := (by have := hb2.size; simp at this; omega); have kT2 : (w2.alloc (.cells #[.int .u8 N, .string ⟨nt.toArray⟩, .bool ng] 205)).heap[w1.heap.size]? = some (.cells #[.int .u8 114, .string ⟨tt.toArray⟩, .bool tg] 205 (0, 0)) := Tx.blk_later (Tx.blk_later (heap_alloc_new w1 (.cells #[.int .u8 114, .string ⟨tt.toArray⟩, .bool tg] 205)) hb2) (Tx.newb w2 _); have kg2 : (w2.alloc (.cells #[.int .u8 N, .string ⟨nt.toArray⟩, .bool ng] 205)).heap[g]? = some (.cells #[.slice ta l.length tc, .int .i64 (A : Int)] 129 (0, 0)) := Tx.blk_later (Tx.blk_later (Tx.blk_later (Tx.blk_later (Tx.blk_later KG.out (Tx.newb _ _)) hb1) (Tx.newb _ _)) hb2) (Tx.newb w2 _); have kR2 : (w2.alloc (.cells #[.int .u8 N, .string ⟨nt.toArray⟩, .bool ng] 205)).heap[w.heap.size]? = some (.cells Qr.zeroQ 29 (0, 0)) := Tx.blk_later (Tx.blk_later (Tx.blk_later (Tx.blk_later (heap_alloc_new w _) hb1) (Tx.newb _ _)) hb2) (Tx.newb w2 _); have hF2 : Qr.Fr g w (w2.alloc (.cells #[.int .u8 N, .string ⟨nt.toArray⟩, .bool ng] 205)) := (((((Qr.Fr.refl g w).alloc _).trans (.of_below hb1)).alloc _).trans (.of_below hb2)).alloc _; have e30 : (w2.alloc (.cells #[.int .u8 N, .string ⟨nt.toArray⟩, .bool ng] 205)).cell? ⟨w1.heap.size, 0, none⟩ = some (.int .u8 114) := (Tx.blk kT2).1 0; have e31 : (w2.alloc (.cells #[.int .u8 N, .string ⟨nt.toArray⟩, .bool ng] 205)).cell? ⟨w1.heap.size, 1, none⟩ = some (.string ⟨tt.toArray⟩) := (Tx.blk kT2).1 1; have hPS2 := Qr.PS.of HPP.out KG.out hF2 (List.suffix_refl _) kg2 HAA.out; have KG2 := Lib.hid kg2; have KT2 := Lib.hid kT2; have KR2 := Lib.hid kR2; clear kg2 kT2 kR2)
   | (go_at_call 252; refine (L0 _ hP0).mono ?_; rintro e w1 ⟨rfl, hb1⟩; have hP1 := hP0.below hb1))
  exact ⟨rfl, rfl, hF5⟩
 ·go_enter Tryz.func301, Tryz.ntmps301
  go_wp2_with (first
   | (go_at_call 308; refine (Y1 _ hPS4.gp.g).mono ?_; rintro e w5 ⟨rfl, hb5⟩; have s5 := hb5.size; have KG5 := Lib.hid (Tx.blk_later KG4.out hb5); have KR5 := Lib.hid (Tx.blk_later KR4.out hb5); have hF5 := hF4.trans (.of_below hb5); have hG5 := (hPS4.below hb5).gp.g)
   | (go_at_call 93; refine (CUT _ hPS2.gp.g).mono ?_; rintro e w3 ⟨rfl, hb3⟩; have s3 := hb3.size; have kT3 := Tx.blk_later KT2.out hb3; have kg3 := Tx.blk_later KG2.out hb3; have kR3 := Tx.blk_later KR2.out hb3; have hF3 := hF2.trans (.of_below hb3); have e50 : w3.cell? ⟨w1.heap.size, 0, none⟩ = some (.int .u8 114) := (Tx.blk kT3).1 0; have eg : w3.cell? ⟨g, 1, none⟩ = some (.int .i64 (A : Int)) := (Tx.blk kg3).1 1; have fg : ∀ i, w3.frozen? ⟨g, i, none⟩ = false := (Tx.blk kg3).2.1; have kg4 : (w3.setCell ⟨g, 1, none⟩ (.int .i64 ((A : Int) + 1))).heap[g]? = some (.cells #[.slice ta l.length tc, .int .i64 ((A : Int) + 1)] 129 (0, 0)) := Qr.blk_set1 kg3 _; have hF4 : Qr.Fr g w (w3.setCell ⟨g, 1, none⟩ (.int .i64 ((A : Int) + 1))) := hF3.set rfl _; have hPS4 : Qr.PS g l r.tail (w3.setCell ⟨g, 1, none⟩ (.int .i64 ((A : Int) + 1))) := Qr.PS.of HPP.out KG.out hF4 HTE.out.1 kg4 HA1.out; have kR4 := Tx.blk_far (a := ⟨g, 1, none⟩) kR3 (show w.heap.size ≠ g by omega) (.int .i64 ((A : Int) + 1)); have KG4 := Lib.hid kg4; have KR4 := Lib.hid kR4; clear kT3 kg3 kR3 kg4 kR4 e30 e31)
   | (go_at_call 252; refine (L1 _ (hP1.below (Tx.newb _ _))).mono ?_; rintro e w2 ⟨rfl, hb2⟩; have s1 : w.heap.size < w1.heap.size := (by have := hb1.size; simp at this; omega); have s2 : w1.heap.size < w2.heap.size := (by have := hb2.size; simp at this; omega); have kT2 : (w2.alloc (.cells #[.int .u8 58, .string ⟨nt.toArray⟩, .bool false] 205)).heap[w1.heap.size]? = some (.cells #[.int .u8 114, .string ⟨tt.toArray⟩, .bool tg] 205 (0, 0)) := Tx.blk_later (Tx.blk_later (heap_alloc_new w1 (.cells #[.int .u8 114, .string ⟨tt.toArray⟩, .bool tg] 205)) hb2) (Tx.newb w2 _); have kg2 : (w2.alloc (.cells #[.int .u8 58, .string ⟨nt.toArray⟩, .bool false] 205)).heap[g]? = some (.cells #[.slice ta l.length tc, .int .i64 (A : Int)] 129 (0, 0)) := Tx.blk_later (Tx.blk_later (Tx.blk_later (Tx.blk_later (Tx.blk_later KG.out (Tx.newb _ _)) hb1) (Tx.newb _ _)) hb2) (Tx.newb w2 _); have kR2 : (w2.alloc (.cells #[.int .u8 58, .string ⟨nt.toArray⟩, .bool false] 205)).heap[w.heap.size]? = some (.cells Qr.zeroQ 29 (0, 0)) := Tx.blk_later (Tx.blk_later (Tx.blk_later (Tx.blk_later (heap_alloc_new w _) hb1) (Tx.newb _ _)) hb2) (Tx.newb w2 _); have hF2 : Qr.Fr g w (w2.alloc (.cells #[.int .u8 58, .string ⟨nt.toArray⟩, .bool false] 205)) := (((((Qr.Fr.refl g w).alloc _).trans (.of_below hb1)).alloc _).trans (.of_below hb2)).alloc _; have e30 : (w2.alloc (.cells #[.int .u8 58, .string ⟨nt.toArray⟩, .bool false] 205)).cell? ⟨w1.heap.size, 0, none⟩ = some (.int .u8 114) := (Tx.blk kT2).1 0; have e31 : (w2.alloc (.cells #[.int .u8 58, .string ⟨nt.toArray⟩, .bool false] 205)).cell? ⟨w1.heap.size, 1, none⟩ = some (.string ⟨tt.toArray⟩) := (Tx.blk kT2).1 1; have hPS2 := Qr.PS.of HPP.out KG.out hF2 (List.suffix_refl _) kg2 HAA.out; have KG2 := Lib.hid kg2; have KT2 := Lib.hid kT2; have KR2 := Lib.hid kR2; clear kg2 kT2 kR2)
   | (go_at_call 252; refine (L0 _ hP0).mono ?_; rintro e w1 ⟨rfl, hb1⟩; have hP1 := hP0.below hb1))
  exact ⟨rfl, rfl, hF5⟩
set_option maxHeartbeats 1600000 in
theorem years_n2 (g : Nat) (l r : List Qr.Tok) (w : World) (hP : Qr.PS g l r w) (kk nk : UInt8) (tt nt : List UInt8) (tg ng : Bool) (K N : Int) (ht : Qr.lk r = ⟨kk, tt, tg⟩) (hK : (kk.toNat : Int) = K) (hn : Qr.lk1 r = ⟨nk, nt, ng⟩) (hN : (nk.toNat : Int) = N) (hk0 : kk ≠ 0) (hpass : (N == 58) = false ∨ (N = 58 ∧ ng = false)) (x y : List UInt8) (hcut : Lib.cut tt [45] = (x, y, true)) (hxs : x.length ≤ 1000) (hys : y.length ≤ 1000) (hK4 : K = 114) (m : Nat) (h1 : Qr.yearN x = some m) (h2 : Qr.yearN y = none) :
  Calls Tryz.prog 301 #[.pointer (some ⟨g, 0, none⟩)] w fun e w' => e = .panicked [{ v := Qr.wrongP, recovered := false }] ∧ Qr.Fr g w w' := by
 have hk1 : (Qr.lk r).k ≠ 0 := by rw [ht]; exact hk0
 have htok := hP.tok hk1
 rw [ht] at htok
 simp only at htok
 have hsz : tt.length ≤ 1000 := by omega
 have hte := Qr.tail_eats hk1
 have hsl := hP.suf.length_le
 have hll := hP.len
 have L0 := fun w h => look0 (K := K) (w := w) (g := g) (l := l) ht hK h
 have L1 := fun w h => look1 (K := N) (w := w) (g := g) (l := l) hn hN h
 obtain ⟨ta, tc, kg, _, _⟩ := hP.blk
 obtain ⟨A, hA⟩ : ∃ A, l.length - r.length = A := ⟨_, rfl⟩
 rw [hA] at kg
 have HAA := Lib.hid (show (A : Int) = ((l.length - r.length : Nat) : Int) by omega)
 have hA1 : (A : Int) + 1 = ((l.length - r.tail.length : Nat) : Int) := by have := hte.2; rw [List.length_tail] at this ⊢; omega
 have hw1 := IntWalk.i64_in ((A : Int) + 1) ⟨by omega, by omega⟩
 have hgl := hP.lt
 have hP0 := hP.below (Tx.newb w (.cells Qr.zeroQ 29))
 have KG := Lib.hid kg; clear kg
 have HA1 := Lib.hid hA1; clear hA1
 have HV := Lib.hid htok.1; clear htok
 have HTE := Lib.hid hte; clear hte
 have HPP := Lib.hid hP; clear hP
 clear ht hn hK hN hk0 hA hk1
 have CUT := fun w h => cut_c tt x y true w h hsz hcut
 have Y1 := fun w h => year_some h1 hxs w h
 have Y2 := fun w h => year_none h2 hys w h
 clear hcut h1 h2 hxs hys
 subst hK4
 rcases hpass with hp | ⟨rfl, rfl⟩
 ·go_enter Tryz.func301, Tryz.ntmps301
  go_wp2_with (first
   | (go_at_call 308; refine (Y2 _ hG5).mono ?_; rintro e w6 ⟨rfl, hb6⟩; have s6 := hb6.size; have kg6 := Tx.blk_later KG5.out hb6; have kR6 := Tx.blk_later KR5.out hb6; have hF6 := hF5.trans (.of_below hb6); obtain ⟨kc6, kf6, kl6⟩ := Tx.blk kR6; have z0 : w6.cell? ⟨w.heap.size, 0, none⟩ = some (.int .i64 0) := kc6 0; have z1 : w6.cell? ⟨w.heap.size, 1, none⟩ = some (.int .i64 0) := kc6 1; have z2 : w6.cell? ⟨w.heap.size, 2, none⟩ = some (.slice none 0 0) := kc6 2; have z3 : w6.cell? ⟨w.heap.size, 3, none⟩ = some (.int .i64 0) := kc6 3; have z4 : w6.cell? ⟨w.heap.size, 4, none⟩ = some (.int .i64 0) := kc6 4; have z5 : w6.cell? ⟨w.heap.size, 5, none⟩ = some (.slice none 0 0) := kc6 5; have KG6 := Lib.hid kg6; have KR6 := Lib.hid kR6; clear kg6 kR6 kc6)
   | (go_at_call 308; refine (Y1 _ hPS4.gp.g).mono ?_; rintro e w5 ⟨rfl, hb5⟩; have s5 := hb5.size; have KG5 := Lib.hid (Tx.blk_later KG4.out hb5); have KR5 := Lib.hid (Tx.blk_later KR4.out hb5); have hF5 := hF4.trans (.of_below hb5); have hG5 := (hPS4.below hb5).gp.g)
   | (go_at_call 93; refine (CUT _ hPS2.gp.g).mono ?_; rintro e w3 ⟨rfl, hb3⟩; have s3 := hb3.size; have kT3 := Tx.blk_later KT2.out hb3; have kg3 := Tx.blk_later KG2.out hb3; have kR3 := Tx.blk_later KR2.out hb3; have hF3 := hF2.trans (.of_below hb3); have e50 : w3.cell? ⟨w1.heap.size, 0, none⟩ = some (.int .u8 114) := (Tx.blk kT3).1 0; have eg : w3.cell? ⟨g, 1, none⟩ = some (.int .i64 (A : Int)) := (Tx.blk kg3).1 1; have fg : ∀ i, w3.frozen? ⟨g, i, none⟩ = false := (Tx.blk kg3).2.1; have kg4 : (w3.setCell ⟨g, 1, none⟩ (.int .i64 ((A : Int) + 1))).heap[g]? = some (.cells #[.slice ta l.length tc, .int .i64 ((A : Int) + 1)] 129 (0, 0)) := Qr.blk_set1 kg3 _; have hF4 : Qr.Fr g w (w3.setCell ⟨g, 1, none⟩ (.int .i64 ((A : Int) + 1))) := hF3.set rfl _; have hPS4 : Qr.PS g l r.tail (w3.setCell ⟨g, 1, none⟩ (.int .i64 ((A : Int) + 1))) := Qr.PS.of HPP.out KG.out hF4 HTE.out.1 kg4 HA1.out; have kR4 := Tx.blk_far (a := ⟨g, 1, none⟩) kR3 (show w.heap.size ≠ g by omega) (.int .i64 ((A : Int) + 1)); have KG4 := Lib.hid kg4; have KR4 := Lib.hid kR4; clear kT3 kg3 kR3 kg4 kR4 e30 e31)
   | (go_at_call 252; refine (L1 _ (hP1.below (Tx.newb _ _))).mono ?_; rintro e w2 ⟨rfl, hb2⟩; have s1 : w.heap.size < w1.heap.size := (by have := hb1.size; simp at this; omega); have s2 : w1.heap.size < w2.heap.size := (by have := hb2.size; simp at this; omega); have kT2 : (w2.alloc (.cells #[.int .u8 N, .string ⟨nt.toArray⟩, .bool ng] 205)).heap[w1.heap.size]? = some (.cells #[.int .u8 114, .string ⟨tt.toArray⟩, .bool tg] 205 (0, 0)) := Tx.blk_later (Tx.blk_later (heap_alloc_new w1 (.cells #[.int .u8 114, .string ⟨tt.toArray⟩, .bool tg] 205)) hb2) (Tx.newb w2 _); have kg2 : (w2.alloc (.cells #[.int .u8 N, .string ⟨nt.toArray⟩, .bool ng] 205)).heap[g]? = some (.cells #[.slice ta l.length tc, .int .i64 (A : Int)] 129 (0, 0)) := Tx.blk_later (Tx.blk_later (Tx.blk_later (Tx.blk_later (Tx.blk_later KG.out (Tx.newb _ _)) hb1) (Tx.newb _ _)) hb2) (Tx.newb w2 _); have kR2 : (w2.alloc (.cells #[.int .u8 N, .string ⟨nt.toArray⟩, .bool ng] 205)).heap[w.heap.size]? = some (.cells Qr.zeroQ 29 (0, 0)) := Tx.blk_later (Tx.blk_later (Tx.blk_later (Tx.blk_later (heap_alloc_new w _) hb1) (Tx.newb _ _)) hb2) (Tx.newb w2 _); have hF2 : Qr.Fr g w (w2.alloc (.cells #[.int .u8 N, .string ⟨nt.toArray⟩, .bool ng] 205)) := (((((Qr.Fr.refl g w).alloc _).trans (.of_below hb1)).alloc _).trans (.of_below hb2)).alloc _; have e30 : (w2.alloc (.cells #[.int .u8 N, .string ⟨nt.toArray⟩, .bool ng] 205)).cell? ⟨w1.heap.size, 0, none⟩ = some (.int .u8 114) := (Tx.blk kT2).1 0; have e31 : (w2.alloc (.cells #[.int .u8 N, .string ⟨nt.toArray⟩, .bool ng] 205)).cell? ⟨w1.heap.size, 1, none⟩ = some (.string ⟨tt.toArray⟩) := (Tx.blk kT2).1 1; have hPS2 := Qr.PS.of HPP.out KG.out hF2 (List.suffix_refl _) kg2 HAA.out; have KG2 := Lib.hid kg2; have KT2 := Lib.hid kT2; have KR2 := Lib.hid kR2; clear kg2 kT2 kR2)
   | (go_at_call 252; refine (L0 _ hP0).mono ?_; rintro e w1 ⟨rfl, hb1⟩; have hP1 := hP0.below hb1))
  exact ⟨rfl, rfl, hF6⟩
 ·go_enter Tryz.func301, Tryz.ntmps301
  go_wp2_with (first
   | (go_at_call 308; refine (Y2 _ hG5).mono ?_; rintro e w6 ⟨rfl, hb6⟩; have s6 := hb6.size; have kg6 := Tx.blk_later KG5.out hb6; have kR6 := Tx.blk_later KR5.out hb6; have hF6 := hF5.trans (.of_below hb6); obtain ⟨kc6, kf6, kl6⟩ := Tx.blk kR6; have z0 : w6.cell? ⟨w.heap.size, 0, none⟩ = some (.int .i64 0) := kc6 0; have z1 : w6.cell? ⟨w.heap.size, 1, none⟩ = some (.int .i64 0) := kc6 1; have z2 : w6.cell? ⟨w.heap.size, 2, none⟩ = some (.slice none 0 0) := kc6 2; have z3 : w6.cell? ⟨w.heap.size, 3, none⟩ = some (.int .i64 0) := kc6 3; have z4 : w6.cell? ⟨w.heap.size, 4, none⟩ = some (.int .i64 0) := kc6 4; have z5 : w6.cell? ⟨w.heap.size, 5, none⟩ = some (.slice none 0 0) := kc6 5; have KG6 := Lib.hid kg6; have KR6 := Lib.hid kR6; clear kg6 kR6 kc6)
   | (go_at_call 308; refine (Y1 _ hPS4.gp.g).mono ?_; rintro e w5 ⟨rfl, hb5⟩; have s5 := hb5.size; have KG5 := Lib.hid (Tx.blk_later KG4.out hb5); have KR5 := Lib.hid (Tx.blk_later KR4.out hb5); have hF5 := hF4.trans (.of_below hb5); have hG5 := (hPS4.below hb5).gp.g)
   | (go_at_call 93; refine (CUT _ hPS2.gp.g).mono ?_; rintro e w3 ⟨rfl, hb3⟩; have s3 := hb3.size; have kT3 := Tx.blk_later KT2.out hb3; have kg3 := Tx.blk_later KG2.out hb3; have kR3 := Tx.blk_later KR2.out hb3; have hF3 := hF2.trans (.of_below hb3); have e50 : w3.cell? ⟨w1.heap.size, 0, none⟩ = some (.int .u8 114) := (Tx.blk kT3).1 0; have eg : w3.cell? ⟨g, 1, none⟩ = some (.int .i64 (A : Int)) := (Tx.blk kg3).1 1; have fg : ∀ i, w3.frozen? ⟨g, i, none⟩ = false := (Tx.blk kg3).2.1; have kg4 : (w3.setCell ⟨g, 1, none⟩ (.int .i64 ((A : Int) + 1))).heap[g]? = some (.cells #[.slice ta l.length tc, .int .i64 ((A : Int) + 1)] 129 (0, 0)) := Qr.blk_set1 kg3 _; have hF4 : Qr.Fr g w (w3.setCell ⟨g, 1, none⟩ (.int .i64 ((A : Int) + 1))) := hF3.set rfl _; have hPS4 : Qr.PS g l r.tail (w3.setCell ⟨g, 1, none⟩ (.int .i64 ((A : Int) + 1))) := Qr.PS.of HPP.out KG.out hF4 HTE.out.1 kg4 HA1.out; have kR4 := Tx.blk_far (a := ⟨g, 1, none⟩) kR3 (show w.heap.size ≠ g by omega) (.int .i64 ((A : Int) + 1)); have KG4 := Lib.hid kg4; have KR4 := Lib.hid kR4; clear kT3 kg3 kR3 kg4 kR4 e30 e31)
   | (go_at_call 252; refine (L1 _ (hP1.below (Tx.newb _ _))).mono ?_; rintro e w2 ⟨rfl, hb2⟩; have s1 : w.heap.size < w1.heap.size := (by have := hb1.size; simp at this; omega); have s2 : w1.heap.size < w2.heap.size := (by have := hb2.size; simp at this; omega); have kT2 : (w2.alloc (.cells #[.int .u8 58, .string ⟨nt.toArray⟩, .bool false] 205)).heap[w1.heap.size]? = some (.cells #[.int .u8 114, .string ⟨tt.toArray⟩, .bool tg] 205 (0, 0)) := Tx.blk_later (Tx.blk_later (heap_alloc_new w1 (.cells #[.int .u8 114, .string ⟨tt.toArray⟩, .bool tg] 205)) hb2) (Tx.newb w2 _); have kg2 : (w2.alloc (.cells #[.int .u8 58, .string ⟨nt.toArray⟩, .bool false] 205)).heap[g]? = some (.cells #[.slice ta l.length tc, .int .i64 (A : Int)] 129 (0, 0)) := Tx.blk_later (Tx.blk_later (Tx.blk_later (Tx.blk_later (Tx.blk_later KG.out (Tx.newb _ _)) hb1) (Tx.newb _ _)) hb2) (Tx.newb w2 _); have kR2 : (w2.alloc (.cells #[.int .u8 58, .string ⟨nt.toArray⟩, .bool false] 205)).heap[w.heap.size]? = some (.cells Qr.zeroQ 29 (0, 0)) := Tx.blk_later (Tx.blk_later (Tx.blk_later (Tx.blk_later (heap_alloc_new w _) hb1) (Tx.newb _ _)) hb2) (Tx.newb w2 _); have hF2 : Qr.Fr g w (w2.alloc (.cells #[.int .u8 58, .string ⟨nt.toArray⟩, .bool false] 205)) := (((((Qr.Fr.refl g w).alloc _).trans (.of_below hb1)).alloc _).trans (.of_below hb2)).alloc _; have e30 : (w2.alloc (.cells #[.int .u8 58, .string ⟨nt.toArray⟩, .bool false] 205)).cell? ⟨w1.heap.size, 0, none⟩ = some (.int .u8 114) := (Tx.blk kT2).1 0; have e31 : (w2.alloc (.cells #[.int .u8 58, .string ⟨nt.toArray⟩, .bool false] 205)).cell? ⟨w1.heap.size, 1, none⟩ = some (.string ⟨tt.toArray⟩) := (Tx.blk kT2).1 1; have hPS2 := Qr.PS.of HPP.out KG.out hF2 (List.suffix_refl _) kg2 HAA.out; have KG2 := Lib.hid kg2; have KT2 := Lib.hid kT2; have KR2 := Lib.hid kR2; clear kg2 kT2 kR2)
   | (go_at_call 252; refine (L0 _ hP0).mono ?_; rintro e w1 ⟨rfl, hb1⟩; have hP1 := hP0.below hb1))
  exact ⟨rfl, rfl, hF6⟩
set_option maxHeartbeats 1600000 in
theorem years_ok (g : Nat) (l r : List Qr.Tok) (w : World) (hP : Qr.PS g l r w) (kk nk : UInt8) (tt nt : List UInt8) (tg ng : Bool) (K N : Int) (ht : Qr.lk r = ⟨kk, tt, tg⟩) (hK : (kk.toNat : Int) = K) (hn : Qr.lk1 r = ⟨nk, nt, ng⟩) (hN : (nk.toNat : Int) = N) (hk0 : kk ≠ 0) (hpass : (N == 58) = false ∨ (N = 58 ∧ ng = false)) (x y : List UInt8) (hcut : Lib.cut tt [45] = (x, y, true)) (hxs : x.length ≤ 1000) (hys : y.length ≤ 1000) (hK4 : K = 114) (m : Nat) (h1 : Qr.yearN x = some m) (n : Nat) (h2 : Qr.yearN y = some n) :
  Calls Tryz.prog 301 #[.pointer (some ⟨g, 0, none⟩)] w fun e w' => Qr.Res g l (some (.mk 4 0 [] m n [], r.tail)) w e w' := by
 have hk1 : (Qr.lk r).k ≠ 0 := by rw [ht]; exact hk0
 have htok := hP.tok hk1
 rw [ht] at htok
 simp only at htok
 have hsz : tt.length ≤ 1000 := by omega
 have hte := Qr.tail_eats hk1
 have hsl := hP.suf.length_le
 have hll := hP.len
 have L0 := fun w h => look0 (K := K) (w := w) (g := g) (l := l) ht hK h
 have L1 := fun w h => look1 (K := N) (w := w) (g := g) (l := l) hn hN h
 obtain ⟨ta, tc, kg, _, _⟩ := hP.blk
 obtain ⟨A, hA⟩ : ∃ A, l.length - r.length = A := ⟨_, rfl⟩
 rw [hA] at kg
 have HAA := Lib.hid (show (A : Int) = ((l.length - r.length : Nat) : Int) by omega)
 have hA1 : (A : Int) + 1 = ((l.length - r.tail.length : Nat) : Int) := by have := hte.2; rw [List.length_tail] at this ⊢; omega
 have hw1 := IntWalk.i64_in ((A : Int) + 1) ⟨by omega, by omega⟩
 have hgl := hP.lt
 have hP0 := hP.below (Tx.newb w (.cells Qr.zeroQ 29))
 have KG := Lib.hid kg; clear kg
 have HA1 := Lib.hid hA1; clear hA1
 have HV := Lib.hid htok.1; clear htok
 have HTE := Lib.hid hte; clear hte
 have HPP := Lib.hid hP; clear hP
 clear ht hn hK hN hk0 hA hk1
 have CUT := fun w h => cut_c tt x y true w h hsz hcut
 have Y1 := fun w h => year_some h1 hxs w h
 have Y2 := fun w h => year_some h2 hys w h
 clear hcut h1 h2 hxs hys
 subst hK4
 rcases hpass with hp | ⟨rfl, rfl⟩
 ·go_enter Tryz.func301, Tryz.ntmps301
  go_wp2_with (first
   | (go_at_call 308; refine (Y2 _ hG5).mono ?_; rintro e w6 ⟨rfl, hb6⟩; have s6 := hb6.size; have kg6 := Tx.blk_later KG5.out hb6; have kR6 := Tx.blk_later KR5.out hb6; have hF6 := hF5.trans (.of_below hb6); obtain ⟨kc6, kf6, kl6⟩ := Tx.blk kR6; have z0 : w6.cell? ⟨w.heap.size, 0, none⟩ = some (.int .i64 0) := kc6 0; have z1 : w6.cell? ⟨w.heap.size, 1, none⟩ = some (.int .i64 0) := kc6 1; have z2 : w6.cell? ⟨w.heap.size, 2, none⟩ = some (.slice none 0 0) := kc6 2; have z3 : w6.cell? ⟨w.heap.size, 3, none⟩ = some (.int .i64 0) := kc6 3; have z4 : w6.cell? ⟨w.heap.size, 4, none⟩ = some (.int .i64 0) := kc6 4; have z5 : w6.cell? ⟨w.heap.size, 5, none⟩ = some (.slice none 0 0) := kc6 5; have KG6 := Lib.hid kg6; have KR6 := Lib.hid kR6; clear kg6 kR6 kc6)
   | (go_at_call 308; refine (Y1 _ hPS4.gp.g).mono ?_; rintro e w5 ⟨rfl, hb5⟩; have s5 := hb5.size; have KG5 := Lib.hid (Tx.blk_later KG4.out hb5); have KR5 := Lib.hid (Tx.blk_later KR4.out hb5); have hF5 := hF4.trans (.of_below hb5); have hG5 := (hPS4.below hb5).gp.g)
   | (go_at_call 93; refine (CUT _ hPS2.gp.g).mono ?_; rintro e w3 ⟨rfl, hb3⟩; have s3 := hb3.size; have kT3 := Tx.blk_later KT2.out hb3; have kg3 := Tx.blk_later KG2.out hb3; have kR3 := Tx.blk_later KR2.out hb3; have hF3 := hF2.trans (.of_below hb3); have e50 : w3.cell? ⟨w1.heap.size, 0, none⟩ = some (.int .u8 114) := (Tx.blk kT3).1 0; have eg : w3.cell? ⟨g, 1, none⟩ = some (.int .i64 (A : Int)) := (Tx.blk kg3).1 1; have fg : ∀ i, w3.frozen? ⟨g, i, none⟩ = false := (Tx.blk kg3).2.1; have kg4 : (w3.setCell ⟨g, 1, none⟩ (.int .i64 ((A : Int) + 1))).heap[g]? = some (.cells #[.slice ta l.length tc, .int .i64 ((A : Int) + 1)] 129 (0, 0)) := Qr.blk_set1 kg3 _; have hF4 : Qr.Fr g w (w3.setCell ⟨g, 1, none⟩ (.int .i64 ((A : Int) + 1))) := hF3.set rfl _; have hPS4 : Qr.PS g l r.tail (w3.setCell ⟨g, 1, none⟩ (.int .i64 ((A : Int) + 1))) := Qr.PS.of HPP.out KG.out hF4 HTE.out.1 kg4 HA1.out; have kR4 := Tx.blk_far (a := ⟨g, 1, none⟩) kR3 (show w.heap.size ≠ g by omega) (.int .i64 ((A : Int) + 1)); have KG4 := Lib.hid kg4; have KR4 := Lib.hid kR4; clear kT3 kg3 kR3 kg4 kR4 e30 e31)
   | (go_at_call 252; refine (L1 _ (hP1.below (Tx.newb _ _))).mono ?_; rintro e w2 ⟨rfl, hb2⟩; have s1 : w.heap.size < w1.heap.size := (by have := hb1.size; simp at this; omega); have s2 : w1.heap.size < w2.heap.size := (by have := hb2.size; simp at this; omega); have kT2 : (w2.alloc (.cells #[.int .u8 N, .string ⟨nt.toArray⟩, .bool ng] 205)).heap[w1.heap.size]? = some (.cells #[.int .u8 114, .string ⟨tt.toArray⟩, .bool tg] 205 (0, 0)) := Tx.blk_later (Tx.blk_later (heap_alloc_new w1 (.cells #[.int .u8 114, .string ⟨tt.toArray⟩, .bool tg] 205)) hb2) (Tx.newb w2 _); have kg2 : (w2.alloc (.cells #[.int .u8 N, .string ⟨nt.toArray⟩, .bool ng] 205)).heap[g]? = some (.cells #[.slice ta l.length tc, .int .i64 (A : Int)] 129 (0, 0)) := Tx.blk_later (Tx.blk_later (Tx.blk_later (Tx.blk_later (Tx.blk_later KG.out (Tx.newb _ _)) hb1) (Tx.newb _ _)) hb2) (Tx.newb w2 _); have kR2 : (w2.alloc (.cells #[.int .u8 N, .string ⟨nt.toArray⟩, .bool ng] 205)).heap[w.heap.size]? = some (.cells Qr.zeroQ 29 (0, 0)) := Tx.blk_later (Tx.blk_later (Tx.blk_later (Tx.blk_later (heap_alloc_new w _) hb1) (Tx.newb _ _)) hb2) (Tx.newb w2 _); have hF2 : Qr.Fr g w (w2.alloc (.cells #[.int .u8 N, .string ⟨nt.toArray⟩, .bool ng] 205)) := (((((Qr.Fr.refl g w).alloc _).trans (.of_below hb1)).alloc _).trans (.of_below hb2)).alloc _; have e30 : (w2.alloc (.cells #[.int .u8 N, .string ⟨nt.toArray⟩, .bool ng] 205)).cell? ⟨w1.heap.size, 0, none⟩ = some (.int .u8 114) := (Tx.blk kT2).1 0; have e31 : (w2.alloc (.cells #[.int .u8 N, .string ⟨nt.toArray⟩, .bool ng] 205)).cell? ⟨w1.heap.size, 1, none⟩ = some (.string ⟨tt.toArray⟩) := (Tx.blk kT2).1 1; have hPS2 := Qr.PS.of HPP.out KG.out hF2 (List.suffix_refl _) kg2 HAA.out; have KG2 := Lib.hid kg2; have KT2 := Lib.hid kT2; have KR2 := Lib.hid kR2; clear kg2 kT2 kR2)
   | (go_at_call 252; refine (L0 _ hP0).mono ?_; rintro e w1 ⟨rfl, hb1⟩; have hP1 := hP0.below hb1))
  refine bodyPost_ret (v := .agg #[.int .i64 4, .int .i64 0, .slice none 0 0, .int .i64 m, .int .i64 n, .slice none 0 0]) (by simp [results, Tryz.results301, go_sem, z0, z1, z2, z3, z4, z5]) rfl ⟨⟨4, 0, none, 0, 0, m, n, none, 0, 0⟩, rfl, Qr.QC.of_kids (ws := []) (ks := []) (.inl ⟨rfl, _, _, rfl⟩) (fun h => absurd rfl h) (Qr.KA.nil _ _), Qr.PS.of HPP.out KG.out (Qr.Fr.put6 hF6 (Nat.le_refl _) _ _ _ _ _ _) HTE.out.1 (Qr.far6 KG6.out (show g ≠ w.heap.size by omega) _ _ _ _ _ _) HA1.out, (Qr.Fr.put6 hF6 (Nat.le_refl _) _ _ _ _ _ _)⟩
 ·go_enter Tryz.func301, Tryz.ntmps301
  go_wp2_with (first
   | (go_at_call 308; refine (Y2 _ hG5).mono ?_; rintro e w6 ⟨rfl, hb6⟩; have s6 := hb6.size; have kg6 := Tx.blk_later KG5.out hb6; have kR6 := Tx.blk_later KR5.out hb6; have hF6 := hF5.trans (.of_below hb6); obtain ⟨kc6, kf6, kl6⟩ := Tx.blk kR6; have z0 : w6.cell? ⟨w.heap.size, 0, none⟩ = some (.int .i64 0) := kc6 0; have z1 : w6.cell? ⟨w.heap.size, 1, none⟩ = some (.int .i64 0) := kc6 1; have z2 : w6.cell? ⟨w.heap.size, 2, none⟩ = some (.slice none 0 0) := kc6 2; have z3 : w6.cell? ⟨w.heap.size, 3, none⟩ = some (.int .i64 0) := kc6 3; have z4 : w6.cell? ⟨w.heap.size, 4, none⟩ = some (.int .i64 0) := kc6 4; have z5 : w6.cell? ⟨w.heap.size, 5, none⟩ = some (.slice none 0 0) := kc6 5; have KG6 := Lib.hid kg6; have KR6 := Lib.hid kR6; clear kg6 kR6 kc6)
   | (go_at_call 308; refine (Y1 _ hPS4.gp.g).mono ?_; rintro e w5 ⟨rfl, hb5⟩; have s5 := hb5.size; have KG5 := Lib.hid (Tx.blk_later KG4.out hb5); have KR5 := Lib.hid (Tx.blk_later KR4.out hb5); have hF5 := hF4.trans (.of_below hb5); have hG5 := (hPS4.below hb5).gp.g)
   | (go_at_call 93; refine (CUT _ hPS2.gp.g).mono ?_; rintro e w3 ⟨rfl, hb3⟩; have s3 := hb3.size; have kT3 := Tx.blk_later KT2.out hb3; have kg3 := Tx.blk_later KG2.out hb3; have kR3 := Tx.blk_later KR2.out hb3; have hF3 := hF2.trans (.of_below hb3); have e50 : w3.cell? ⟨w1.heap.size, 0, none⟩ = some (.int .u8 114) := (Tx.blk kT3).1 0; have eg : w3.cell? ⟨g, 1, none⟩ = some (.int .i64 (A : Int)) := (Tx.blk kg3).1 1; have fg : ∀ i, w3.frozen? ⟨g, i, none⟩ = false := (Tx.blk kg3).2.1; have kg4 : (w3.setCell ⟨g, 1, none⟩ (.int .i64 ((A : Int) + 1))).heap[g]? = some (.cells #[.slice ta l.length tc, .int .i64 ((A : Int) + 1)] 129 (0, 0)) := Qr.blk_set1 kg3 _; have hF4 : Qr.Fr g w (w3.setCell ⟨g, 1, none⟩ (.int .i64 ((A : Int) + 1))) := hF3.set rfl _; have hPS4 : Qr.PS g l r.tail (w3.setCell ⟨g, 1, none⟩ (.int .i64 ((A : Int) + 1))) := Qr.PS.of HPP.out KG.out hF4 HTE.out.1 kg4 HA1.out; have kR4 := Tx.blk_far (a := ⟨g, 1, none⟩) kR3 (show w.heap.size ≠ g by omega) (.int .i64 ((A : Int) + 1)); have KG4 := Lib.hid kg4; have KR4 := Lib.hid kR4; clear kT3 kg3 kR3 kg4 kR4 e30 e31)
   | (go_at_call 252; refine (L1 _ (hP1.below (Tx.newb _ _))).mono ?_; rintro e w2 ⟨rfl, hb2⟩; have s1 : w.heap.size < w1.heap.size := (by have := hb1.size; simp at this; omega); have s2 : w1.heap.size < w2.heap.size := (by have := hb2.size; simp at this; omega); have kT2 : (w2.alloc (.cells #[.int .u8 58, .string ⟨nt.toArray⟩, .bool false] 205)).heap[w1.heap.size]? = some (.cells #[.int .u8 114, .string ⟨tt.toArray⟩, .bool tg] 205 (0, 0)) := Tx.blk_later (Tx.blk_later (heap_alloc_new w1 (.cells #[.int .u8 114, .string ⟨tt.toArray⟩, .bool tg] 205)) hb2) (Tx.newb w2 _); have kg2 : (w2.alloc (.cells #[.int .u8 58, .string ⟨nt.toArray⟩, .bool false] 205)).heap[g]? = some (.cells #[.slice ta l.length tc, .int .i64 (A : Int)] 129 (0, 0)) := Tx.blk_later (Tx.blk_later (Tx.blk_later (Tx.blk_later (Tx.blk_later KG.out (Tx.newb _ _)) hb1) (Tx.newb _ _)) hb2) (Tx.newb w2 _); have kR2 : (w2.alloc (.cells #[.int .u8 58, .string ⟨nt.toArray⟩, .bool false] 205)).heap[w.heap.size]? = some (.cells Qr.zeroQ 29 (0, 0)) := Tx.blk_later (Tx.blk_later (Tx.blk_later (Tx.blk_later (heap_alloc_new w _) hb1) (Tx.newb _ _)) hb2) (Tx.newb w2 _); have hF2 : Qr.Fr g w (w2.alloc (.cells #[.int .u8 58, .string ⟨nt.toArray⟩, .bool false] 205)) := (((((Qr.Fr.refl g w).alloc _).trans (.of_below hb1)).alloc _).trans (.of_below hb2)).alloc _; have e30 : (w2.alloc (.cells #[.int .u8 58, .string ⟨nt.toArray⟩, .bool false] 205)).cell? ⟨w1.heap.size, 0, none⟩ = some (.int .u8 114) := (Tx.blk kT2).1 0; have e31 : (w2.alloc (.cells #[.int .u8 58, .string ⟨nt.toArray⟩, .bool false] 205)).cell? ⟨w1.heap.size, 1, none⟩ = some (.string ⟨tt.toArray⟩) := (Tx.blk kT2).1 1; have hPS2 := Qr.PS.of HPP.out KG.out hF2 (List.suffix_refl _) kg2 HAA.out; have KG2 := Lib.hid kg2; have KT2 := Lib.hid kT2; have KR2 := Lib.hid kR2; clear kg2 kT2 kR2)
   | (go_at_call 252; refine (L0 _ hP0).mono ?_; rintro e w1 ⟨rfl, hb1⟩; have hP1 := hP0.below hb1))
  refine bodyPost_ret (v := .agg #[.int .i64 4, .int .i64 0, .slice none 0 0, .int .i64 m, .int .i64 n, .slice none 0 0]) (by simp [results, Tryz.results301, go_sem, z0, z1, z2, z3, z4, z5]) rfl ⟨⟨4, 0, none, 0, 0, m, n, none, 0, 0⟩, rfl, Qr.QC.of_kids (ws := []) (ks := []) (.inl ⟨rfl, _, _, rfl⟩) (fun h => absurd rfl h) (Qr.KA.nil _ _), Qr.PS.of HPP.out KG.out (Qr.Fr.put6 hF6 (Nat.le_refl _) _ _ _ _ _ _) HTE.out.1 (Qr.far6 KG6.out (show g ≠ w.heap.size by omega) _ _ _ _ _ _) HA1.out, (Qr.Fr.put6 hF6 (Nat.le_refl _) _ _ _ _ _ _)⟩
end Go.Proofs.YtlakomilichhnaaGreatDoor
namespace Go.Proofs.YtlakomilichhnaaGreatDoor
open Go.RowKit
set_option maxRecDepth 100000
namespace Qr
theorem words_nil {t : List UInt8} : wordsB t = [] ↔ Tx.words t = [] := by unfold wordsB; exact List.map_eq_nil_iff
theorem words_n (t : List UInt8) : (wordsB t).length = (Tx.words t).length := by unfold wordsB; rw [List.length_map]
theorem word0_k {r : List Tok} {kk : UInt8} {tt : List UInt8} {tg : Bool} (ht : lk r = ⟨kk, tt, tg⟩) (h : word0 r = true) : kk = 113 ∨ kk = 114 := by
 unfold word0 at h
 rw [ht] at h
 simp only [Bool.or_eq_true, Bool.and_eq_true, beq_iff_eq] at h
 rcases h with h | h
 ·exact .inl h
 ·exact .inr h.1
theorem glue_eq {r : List Tok} {kk nk c : UInt8} {tt nt : List UInt8} {tg ng : Bool} (ht : lk r = ⟨kk, tt, tg⟩) (hn : lk1 r = ⟨nk, nt, ng⟩) : glue c r = (kk == 114 && nk == c && ng) := by
 unfold glue
 rw [ht, hn]
theorem k_eq {kk c : UInt8} : ((kk.toNat : Int) == (c.toNat : Int)) = (kk == c) := by
 rw [Bool.eq_iff_iff, beq_iff_eq, beq_iff_eq]
 exact ⟨fun h => UInt8.toNat_inj.1 (by omega), fun h => by rw [h]⟩
theorem no_glue {kk nk c : UInt8} {ng : Bool} (hk : kk = 113 ∨ kk = 114) (h : (kk == 114 && nk == c && ng) = false) : ((kk.toNat : Int) == 114) = false ∨ ((kk.toNat : Int) = 114 ∧ ((nk.toNat : Int) == (c.toNat : Int)) = false) ∨ ((kk.toNat : Int) = 114 ∧ (nk.toNat : Int) = (c.toNat : Int) ∧ ng = false) := by
 rcases hk with rfl | rfl
 ·exact .inl rfl
 ·by_cases hc : nk = c
  ·subst hc
   refine .inr (.inr ⟨rfl, rfl, ?_⟩)
   simpa using h
  ·exact .inr (.inl ⟨rfl, by rw [k_eq]; exact beq_eq_false_iff_ne.2 hc⟩)
end Qr
theorem term_c (g : Nat) (l r : List Qr.Tok) (w : World) (hP : Qr.PS g l r w) (hw : Qr.word0 r = true) :
  Calls Tryz.prog 303 #[.pointer (some ⟨g, 0, none⟩)] w (Qr.Res g l (Qr.pTerm true 0 r) w) := by
 obtain ⟨⟨kk, tt, tg⟩, ht⟩ : ∃ t, Qr.lk r = t := ⟨_, rfl⟩
 obtain ⟨⟨nk, nt, ng⟩, hn⟩ : ∃ n, Qr.lk1 r = n := ⟨_, rfl⟩
 have hk := Qr.word0_k ht hw
 have hk0 : kk ≠ 0 := by rcases hk with rfl | rfl <;> decide
 by_cases h58 : Qr.glue 58 r = true
 ·have e : Qr.pTerm true 0 r = none := by unfold Qr.pTerm; rw [if_neg (by simp [hw]), if_pos (by simp [h58])]
  rw [e]
  exact (term_glue g l r w hP h58).mono fun e w' ⟨h1, h2⟩ => ⟨h1, .of_below h2⟩
 ·have h58' : Qr.glue 58 r = false := by simpa using h58
  have hp := h58'
  rw [Qr.glue_eq ht hn] at hp
  have hpass := Qr.no_glue (c := 58) hk hp
  by_cases hx : Qr.wordsB tt = []
  ·have e : Qr.pTerm true 0 r = none := by unfold Qr.pTerm; rw [if_neg (by simp [hw]), if_neg (by simp [h58']), if_pos (by rw [ht]; exact Qr.words_nil.1 hx)]
   rw [e]
   exact term_nil g l r w hP kk nk tt nt tg ng _ _ ht rfl hn rfl hk0 hpass hx
  ·have hx' : ¬ Tx.words (Qr.lk r).t = [] := by rw [ht]; exact fun h => hx (Qr.words_nil.2 h)
   by_cases h42 : Qr.glue 42 r = true
   ·have e : Qr.pTerm true 0 r = if 1 < (Qr.wordsB tt).length then none else some (.mk 2 0 (Qr.wordsB tt) 0 0 [], r.tail.tail) := by
     unfold Qr.pTerm
     rw [if_neg (by simp [hw]), if_neg (by simp [h58']), if_neg hx', if_pos h42, Qr.words_n, ht]
    rw [e]
    rw [Qr.glue_eq ht hn] at h42
    simp only [Bool.and_eq_true, beq_iff_eq] at h42
    obtain ⟨⟨rfl, rfl⟩, rfl⟩ := h42
    exact term_star g l r w hP 114 42 tt nt tg true _ _ ht rfl hn rfl hk0 (by decide) ⟨rfl, rfl, rfl⟩ hx
   ·have h42' : Qr.glue 42 r = false := by simpa using h42
    have hq := h42'
    rw [Qr.glue_eq ht hn] at hq
    have e : Qr.pTerm true 0 r = some (.mk (if (kk.toNat : Int) = 114 ∧ (Qr.wordsB tt).length = 1 then 1 else 3) 0 (Qr.wordsB tt) 0 0 [], r.tail) := by
     unfold Qr.pTerm
     rw [if_neg (by simp [hw]), if_neg (by simp [h58']), if_neg hx', if_neg h42, ht]
     rcases hk with rfl | rfl
     ·rw [if_neg (by simp), if_neg (by simp)]
     ·by_cases h1 : (Tx.words tt).length = 1
      ·rw [if_pos ⟨rfl, h1⟩, if_pos ⟨rfl, by rw [Qr.words_n]; exact h1⟩]
      ·rw [if_neg (fun h => h1 h.2), if_neg (fun h => h1 (by rw [← Qr.words_n]; exact h.2))]
    rw [e]
    exact term_plain g l r w hP kk nk tt nt tg ng _ _ ht rfl hn rfl hk0 hpass hx (Qr.no_glue (c := 42) hk hq)
theorem years_c (g : Nat) (l r : List Qr.Tok) (w : World) (hP : Qr.PS g l r w) (hw : Qr.word0 r = true) :
    Calls Tryz.prog 301 #[.pointer (some ⟨g, 0, none⟩)] w (Qr.Res g l (Qr.pYears true r) w) := by
  obtain ⟨⟨kk, tt, tg⟩, ht⟩ : ∃ t, Qr.lk r = t := ⟨_, rfl⟩
  obtain ⟨⟨nk, nt, ng⟩, hn⟩ : ∃ n, Qr.lk1 r = n := ⟨_, rfl⟩
  have hk := Qr.word0_k ht hw
  have hk0 : kk ≠ 0 := by rcases hk with rfl | rfl <;> decide
  have htl := (hP.tok (Qr.word0_ne hw)).2
  rw [ht] at htl
  simp only at htl
  by_cases hg : nk = 58 ∧ ng = true
  · have e : Qr.pYears true r = none := by unfold Qr.pYears; rw [if_pos (by rw [hn]; simp [hg.1, hg.2])]
    rw [e]
    exact years_glue g l r w hP kk nk tt nt tg ng _ _ ht rfl hn rfl hk0 (by rw [hg.1]; rfl) hg.2
  · have hpass : ((nk.toNat : Int) == 58) = false ∨ ((nk.toNat : Int) = 58 ∧ ng = false) := by
      by_cases h1 : nk = 58
      · exact .inr ⟨by rw [h1]; rfl, by cases ng <;> simp_all⟩
      · exact .inl (by rw [show (58 : Int) = ((58 : UInt8).toNat : Int) from rfl, Qr.k_eq]; exact beq_eq_false_iff_ne.2 h1)
    have hg' : ¬ ((true && (Qr.lk1 r).k == 58 && (Qr.lk1 r).g) = true) := by
      rw [hn]
      intro h
      simp only [Bool.and_eq_true, beq_iff_eq] at h
      exact hg ⟨h.1.2, h.2⟩
    have hcut := Qr.cut_one 45 tt
    rcases hk with rfl | rfl
    · have e : Qr.pYears true r = none := by unfold Qr.pYears; rw [if_neg hg', if_pos (by rw [ht]; simp only; decide)]
      rw [e]
      exact years_bad g l r w hP 113 nk tt nt tg ng _ _ ht rfl hn rfl hk0 hpass _ _ _ (show Lib.cut tt [45] = ((Lib.cut tt [45]).1, (Lib.cut tt [45]).2.1, (Lib.cut tt [45]).2.2) from rfl) (.inl rfl)
    · have e0 : Qr.pYears true r = match Sp.cut 45 tt with
          | none => none
          | some (x, y) => match Qr.yearN x, Qr.yearN y with
            | some m, some n => some (.mk 4 0 [] m n [], r.tail)
            | _, _ => none := by unfold Qr.pYears; rw [if_neg hg', if_neg (by rw [ht]; simp), ht]; rfl
      cases hc : Sp.cut 45 tt with
      | none =>
        rw [hc] at hcut e0
        rw [e0]
        exact years_bad g l r w hP 114 nk tt nt tg ng _ _ ht rfl hn rfl hk0 hpass _ _ _ hcut (.inr ⟨rfl, rfl⟩)
      | some p =>
        obtain ⟨x, y⟩ := p
        rw [hc] at hcut e0
        have hxy := Sp.cut_len hc
        cases h1 : Qr.yearN x with
        | none =>
          rw [show Qr.pYears true r = none by rw [e0]; simp only [h1]]
          exact years_n1 g l r w hP 114 nk tt nt tg ng _ _ ht rfl hn rfl hk0 hpass x y hcut (by omega) rfl h1
        | some m =>
          cases h2 : Qr.yearN y with
          | none =>
            rw [show Qr.pYears true r = none by rw [e0]; simp only [h1, h2]]
            exact years_n2 g l r w hP 114 nk tt nt tg ng _ _ ht rfl hn rfl hk0 hpass x y hcut (by omega) (by omega) rfl m h1 h2
          | some n =>
            rw [show Qr.pYears true r = some (.mk 4 0 [] m n [], r.tail) by rw [e0]; simp only [h1, h2]]
            exact years_ok g l r w hP 114 nk tt nt tg ng _ _ ht rfl hn rfl hk0 hpass x y hcut (by omega) (by omega) rfl m h1 n h2
theorem names_c (w : World) : Calls Tryz.prog 302 #[] w fun e w' => e = .returned (.slice (some ⟨w.heap.size, 0, none⟩) 5 5) ∧ w' = w.alloc (.cells #[.string ⟨#[97, 110, 121]⟩, .string ⟨#[116, 105]⟩, .string ⟨#[97, 117]⟩, .string ⟨#[115, 117]⟩, .string ⟨#[110, 117]⟩] 9) := by
 go_enter Tryz.func302, Tryz.ntmps302
 go_wp2
 go_ret
 exact ⟨rfl, rfl⟩
end Go.Proofs.YtlakomilichhnaaGreatDoor
namespace Go.Proofs.YtlakomilichhnaaGreatDoor
open Go.RowKit
set_option maxRecDepth 100000
attribute [local go_sem] Qr.run_tok0 Qr.run_tok1 Qr.run_tok2
set_option maxHeartbeats 800000 in
theorem prim_bad (g : Nat) (l r : List Qr.Tok) (w : World) (hP : Qr.PS g l r w) (hb : Qr.begins r = false) :
  Calls Tryz.prog 287 #[.pointer (some ⟨g, 0, none⟩)] w fun e w' => e = .panicked [{ v := Qr.wrongP, recovered := false }] ∧ Qr.Fr g w w' := by
 have hsl := hP.suf.length_le
 have hll := hP.len
 have hgl := hP.lt
 obtain ⟨ta, tc, kg, _, _⟩ := hP.blk
 obtain ⟨A, hA⟩ : ∃ A, l.length - r.length = A := ⟨_, rfl⟩
 rw [hA] at kg
 have hP0 := hP.below (Tx.newb w (.cells Qr.zeroQ 29))
 have KG := Lib.hid kg; clear kg
 have HPP := Lib.hid hP; clear hP
 have HB := Lib.hid hb; clear hb
 go_enter Tryz.func287, Tryz.ntmps287
 go_wp2_with (first
  | (go_at_call 251; refine (begins_c g l r _ hP0).mono ?_; rintro e w1 ⟨rfl, hb1⟩; rw [HB.out]; have hP1 := hP0.below hb1; have s1 : w.heap.size < w1.heap.size := (by have := hb1.size; simp at this; omega); have KG1 := Lib.hid (Tx.blk_later (Tx.blk_later KG.out (Tx.newb w _)) hb1); have KR1 : Hid (w1.heap[w.heap.size]? = some (.cells Qr.zeroQ 29 (0, 0))) := Lib.hid (Tx.blk_later (heap_alloc_new w _) hb1); have hF1 : Qr.Fr g w w1 := ((Qr.Fr.refl g w).alloc _).trans (.of_below hb1)))
 exact ⟨rfl, rfl, hF1⟩
set_option maxHeartbeats 800000 in
theorem prim_par_none (g : Nat) (l r : List Qr.Tok) (w : World) (hP : Qr.PS g l r w) (kk : UInt8) (tt : List UInt8) (tg : Bool) (K : Int) (ht : Qr.lk r = ⟨kk, tt, tg⟩) (hK : (kk.toNat : Int) = K) (hb : Qr.begins r = true) (h40 : K = 40) (x : Qr.PR) (hOr : ∀ w, Qr.PS g l r.tail w → Calls Tryz.prog 117 #[.pointer (some ⟨g, 0, none⟩)] w (Qr.Res g l x w)) (ho : x = none) :
  Calls Tryz.prog 287 #[.pointer (some ⟨g, 0, none⟩)] w fun e w' => e = .panicked [{ v := Qr.wrongP, recovered := false }] ∧ Qr.Fr g w w' := by
 have hsl := hP.suf.length_le
 have hll := hP.len
 have hgl := hP.lt
 obtain ⟨ta, tc, kg, _, _⟩ := hP.blk
 obtain ⟨A, hA⟩ : ∃ A, l.length - r.length = A := ⟨_, rfl⟩
 rw [hA] at kg
 have hP0 := hP.below (Tx.newb w (.cells Qr.zeroQ 29))
 have KG := Lib.hid kg; clear kg
 have HPP := Lib.hid hP; clear hP
 have hk1 := Qr.begins_ne hb
 have hte := Qr.tail_eats hk1
 have L0 := fun w h => look0 (K := K) (w := w) (g := g) (l := l) ht hK h
 have HB := Lib.hid hb; clear hb
 have HTE := Lib.hid hte; clear hk1
 have hA1 : (A : Int) + 1 = ((l.length - r.tail.length : Nat) : Int) := by have := hte.2; rw [List.length_tail] at this ⊢; omega
 have hw1 := IntWalk.i64_in ((A : Int) + 1) ⟨by omega, by omega⟩
 have HA1 := Lib.hid hA1; clear hA1 hte ht hK
 subst h40
 have HO := Lib.hid ho; clear ho
 go_enter Tryz.func287, Tryz.ntmps287
 go_wp2_with (first
  | (go_at_call 117; refine (hOr _ hPS3).mono ?_; rintro e w4 h4; rw [HO.out] at h4; obtain ⟨rfl, hF4⟩ := h4.bad; have hF4' := hF3.trans hF4)
  | (go_at_call 252; refine (L0 _ hP1).mono ?_; rintro e w2 ⟨rfl, hb2⟩; have s2 := hb2.size; have kT2 : (w2.alloc (.cells #[.int .u8 40, .string ⟨tt.toArray⟩, .bool tg] 205)).heap[w2.heap.size]? = some (.cells #[.int .u8 40, .string ⟨tt.toArray⟩, .bool tg] 205 (0, 0)) := heap_alloc_new _ _; have kg2 : (w2.alloc (.cells #[.int .u8 40, .string ⟨tt.toArray⟩, .bool tg] 205)).heap[g]? = some (.cells #[.slice ta l.length tc, .int .i64 (A : Int)] 129 (0, 0)) := Tx.blk_later (Tx.blk_later KG1.out hb2) (Tx.newb w2 _); have kR2 : (w2.alloc (.cells #[.int .u8 40, .string ⟨tt.toArray⟩, .bool tg] 205)).heap[w.heap.size]? = some (.cells Qr.zeroQ 29 (0, 0)) := Tx.blk_later (Tx.blk_later KR1.out hb2) (Tx.newb w2 _); have hF2 : Qr.Fr g w (w2.alloc (.cells #[.int .u8 40, .string ⟨tt.toArray⟩, .bool tg] 205)) := (hF1.trans (.of_below hb2)).alloc _; have hP2 : Qr.PS g l r (w2.alloc (.cells #[.int .u8 40, .string ⟨tt.toArray⟩, .bool tg] 205)) := (hP1.below hb2).below (Tx.newb w2 _); have eg : (w2.alloc (.cells #[.int .u8 40, .string ⟨tt.toArray⟩, .bool tg] 205)).cell? ⟨g, 1, none⟩ = some (.int .i64 (A : Int)) := (Tx.blk kg2).1 1; have fg : ∀ i, (w2.alloc (.cells #[.int .u8 40, .string ⟨tt.toArray⟩, .bool tg] 205)).frozen? ⟨g, i, none⟩ = false := (Tx.blk kg2).2.1; have KT2 := Lib.hid kT2; have KG2 := Lib.hid kg2; have KR2 := Lib.hid kR2; clear kT2 kg2 kR2; have kg3 : ((w2.alloc (.cells #[.int .u8 40, .string ⟨tt.toArray⟩, .bool tg] 205)).setCell ⟨g, 1, none⟩ (.int .i64 ((A : Int) + 1))).heap[g]? = some (.cells #[.slice ta l.length tc, .int .i64 ((A : Int) + 1)] 129 (0, 0)) := Qr.blk_set1 KG2.out _; have hF3 : Qr.Fr g w ((w2.alloc (.cells #[.int .u8 40, .string ⟨tt.toArray⟩, .bool tg] 205)).setCell ⟨g, 1, none⟩ (.int .i64 ((A : Int) + 1))) := hF2.set rfl _; have hPS3 : Qr.PS g l r.tail ((w2.alloc (.cells #[.int .u8 40, .string ⟨tt.toArray⟩, .bool tg] 205)).setCell ⟨g, 1, none⟩ (.int .i64 ((A : Int) + 1))) := Qr.PS.of HPP.out KG.out hF3 HTE.out.1 kg3 HA1.out; have KR3 := Lib.hid (Tx.blk_far (a := ⟨g, 1, none⟩) KR2.out (show w.heap.size ≠ g by omega) (.int .i64 ((A : Int) + 1))); have s3 : ((w2.alloc (.cells #[.int .u8 40, .string ⟨tt.toArray⟩, .bool tg] 205)).setCell ⟨g, 1, none⟩ (.int .i64 ((A : Int) + 1))).heap.size = w2.heap.size + 1 := (by simp [World.setCell]); clear kg3)
  | (go_at_call 251; refine (begins_c g l r _ hP0).mono ?_; rintro e w1 ⟨rfl, hb1⟩; rw [HB.out]; have hP1 := hP0.below hb1; have s1 : w.heap.size < w1.heap.size := (by have := hb1.size; simp at this; omega); have KG1 := Lib.hid (Tx.blk_later (Tx.blk_later KG.out (Tx.newb w _)) hb1); have KR1 : Hid (w1.heap[w.heap.size]? = some (.cells Qr.zeroQ 29 (0, 0))) := Lib.hid (Tx.blk_later (heap_alloc_new w _) hb1); have hF1 : Qr.Fr g w w1 := ((Qr.Fr.refl g w).alloc _).trans (.of_below hb1)))
 exact ⟨rfl, rfl, hF4'⟩
set_option maxHeartbeats 800000 in
theorem prim_par_bad (g : Nat) (l r : List Qr.Tok) (w : World) (hP : Qr.PS g l r w) (kk : UInt8) (tt : List UInt8) (tg : Bool) (K : Int) (ht : Qr.lk r = ⟨kk, tt, tg⟩) (hK : (kk.toNat : Int) = K) (hb : Qr.begins r = true) (h40 : K = 40) (x : Qr.PR) (hOr : ∀ w, Qr.PS g l r.tail w → Calls Tryz.prog 117 #[.pointer (some ⟨g, 0, none⟩)] w (Qr.Res g l x w)) (q : Qr.Qy) (r' : List Qr.Tok) (ho : x = some (q, r')) (k5 : UInt8) (t5 : List UInt8) (g5 : Bool) (K5 : Int) (ht5 : Qr.lk r' = ⟨k5, t5, g5⟩) (hK5 : (k5.toNat : Int) = K5) (h41 : k5 ≠ 41) :
  Calls Tryz.prog 287 #[.pointer (some ⟨g, 0, none⟩)] w fun e w' => e = .panicked [{ v := Qr.wrongP, recovered := false }] ∧ Qr.Fr g w w' := by
 have hsl := hP.suf.length_le
 have hll := hP.len
 have hgl := hP.lt
 obtain ⟨ta, tc, kg, _, _⟩ := hP.blk
 obtain ⟨A, hA⟩ : ∃ A, l.length - r.length = A := ⟨_, rfl⟩
 rw [hA] at kg
 have hP0 := hP.below (Tx.newb w (.cells Qr.zeroQ 29))
 have KG := Lib.hid kg; clear kg
 have HPP := Lib.hid hP; clear hP
 have hk1 := Qr.begins_ne hb
 have hte := Qr.tail_eats hk1
 have L0 := fun w h => look0 (K := K) (w := w) (g := g) (l := l) ht hK h
 have HB := Lib.hid hb; clear hb
 have HTE := Lib.hid hte; clear hk1
 have hA1 : (A : Int) + 1 = ((l.length - r.tail.length : Nat) : Int) := by have := hte.2; rw [List.length_tail] at this ⊢; omega
 have hw1 := IntWalk.i64_in ((A : Int) + 1) ⟨by omega, by omega⟩
 have HA1 := Lib.hid hA1; clear hA1 hte ht hK
 subst h40
 have HO := Lib.hid ho; clear ho
 have L5 := fun w h => look0 (K := K5) (w := w) (g := g) (l := l) ht5 hK5 h
 obtain ⟨A5, hA5⟩ : ∃ A5, l.length - r'.length = A5 := ⟨_, rfl⟩
 have hw5 := IntWalk.i64_in ((A5 : Int) + 1) ⟨by omega, by omega⟩
 have HA5 := Lib.hid hA5
 have n1 : (K5 == 41) = false := by rw [← hK5, show (41 : Int) = ((41 : UInt8).toNat : Int) from rfl, Qr.k_eq]; exact beq_eq_false_iff_ne.2 h41
 have n2 : (K5 != 41) = true := by rw [bne, n1]; rfl
 have n3 : ¬ K5 = 41 := beq_eq_false_iff_ne.1 n1
 clear ht5 hK5 h41 hA5
 go_enter Tryz.func287, Tryz.ntmps287
 go_wp2_with (first
  | (go_at_call 252; refine (L5 _ (hP4.below (Tx.newb w4 (.cells #[.int .i64 qo, .int .i64 qf, .slice qsa qsn qsc, .int .i64 qa, .int .i64 qb, .slice qka qkn qkc] 29)))).mono ?_; rintro e w5 ⟨rfl, hb5⟩; have s5 := hb5.size; simp only [World.size_alloc] at s5; obtain ⟨ta4, tc4, kg4, _, _⟩ := hP4.blk; have KP4 := Lib.hid kg4; rw [HA5.out] at kg4; have kg5 := Tx.blk_later (Tx.blk_later kg4 (Tx.newb w4 (.cells #[.int .i64 qo, .int .i64 qf, .slice qsa qsn qsc, .int .i64 qa, .int .i64 qb, .slice qka qkn qkc] 29))) hb5; have kR5 := Tx.blk_later (Tx.blk_later KR4.out (Tx.newb w4 (.cells #[.int .i64 qo, .int .i64 qf, .slice qsa qsn qsc, .int .i64 qa, .int .i64 qb, .slice qka qkn qkc] 29))) hb5; have kQ5 := Tx.blk_later (heap_alloc_new w4 (.cells #[.int .i64 qo, .int .i64 qf, .slice qsa qsn qsc, .int .i64 qa, .int .i64 qb, .slice qka qkn qkc] 29)) hb5; have hF5 : Qr.Fr g w4 w5 := ((Qr.Fr.refl g w4).alloc _).trans (.of_below hb5); have e5 : w5.cell? ⟨g, 1, none⟩ = some (.int .i64 (A5 : Int)) := (Tx.blk kg5).1 1; have f5 : ∀ i, w5.frozen? ⟨g, i, none⟩ = false := (Tx.blk kg5).2.1; have fr5 : ∀ i, w5.frozen? ⟨w.heap.size, i, none⟩ = false := (Tx.blk kR5).2.1; have y0 : ∀ v, (w5.setCell ⟨g, 1, none⟩ v).cell? ⟨w.heap.size, 0, none⟩ = some (.int .i64 0) := (fun v => (Tx.blk (Tx.blk_far (a := ⟨g, 1, none⟩) kR5 (show w.heap.size ≠ g by omega) v)).1 0); have y1 : ∀ v, (w5.setCell ⟨g, 1, none⟩ v).cell? ⟨w.heap.size, 1, none⟩ = some (.int .i64 0) := (fun v => (Tx.blk (Tx.blk_far (a := ⟨g, 1, none⟩) kR5 (show w.heap.size ≠ g by omega) v)).1 1); have y2 : ∀ v, (w5.setCell ⟨g, 1, none⟩ v).cell? ⟨w.heap.size, 2, none⟩ = some (.slice none 0 0) := (fun v => (Tx.blk (Tx.blk_far (a := ⟨g, 1, none⟩) kR5 (show w.heap.size ≠ g by omega) v)).1 2); have y3 : ∀ v, (w5.setCell ⟨g, 1, none⟩ v).cell? ⟨w.heap.size, 3, none⟩ = some (.int .i64 0) := (fun v => (Tx.blk (Tx.blk_far (a := ⟨g, 1, none⟩) kR5 (show w.heap.size ≠ g by omega) v)).1 3); have y4 : ∀ v, (w5.setCell ⟨g, 1, none⟩ v).cell? ⟨w.heap.size, 4, none⟩ = some (.int .i64 0) := (fun v => (Tx.blk (Tx.blk_far (a := ⟨g, 1, none⟩) kR5 (show w.heap.size ≠ g by omega) v)).1 4); have y5 : ∀ v, (w5.setCell ⟨g, 1, none⟩ v).cell? ⟨w.heap.size, 5, none⟩ = some (.slice none 0 0) := (fun v => (Tx.blk (Tx.blk_far (a := ⟨g, 1, none⟩) kR5 (show w.heap.size ≠ g by omega) v)).1 5); have x0 : ∀ v, (w5.setCell ⟨g, 1, none⟩ v).cell? ⟨w4.heap.size, 0, none⟩ = some (.int .i64 qo) := (fun v => (Tx.blk (Tx.blk_far (a := ⟨g, 1, none⟩) kQ5 (show w4.heap.size ≠ g by omega) v)).1 0); have x1 : ∀ v, (w5.setCell ⟨g, 1, none⟩ v).cell? ⟨w4.heap.size, 1, none⟩ = some (.int .i64 qf) := (fun v => (Tx.blk (Tx.blk_far (a := ⟨g, 1, none⟩) kQ5 (show w4.heap.size ≠ g by omega) v)).1 1); have x2 : ∀ v, (w5.setCell ⟨g, 1, none⟩ v).cell? ⟨w4.heap.size, 2, none⟩ = some (.slice qsa qsn qsc) := (fun v => (Tx.blk (Tx.blk_far (a := ⟨g, 1, none⟩) kQ5 (show w4.heap.size ≠ g by omega) v)).1 2); have x3 : ∀ v, (w5.setCell ⟨g, 1, none⟩ v).cell? ⟨w4.heap.size, 3, none⟩ = some (.int .i64 qa) := (fun v => (Tx.blk (Tx.blk_far (a := ⟨g, 1, none⟩) kQ5 (show w4.heap.size ≠ g by omega) v)).1 3); have x4 : ∀ v, (w5.setCell ⟨g, 1, none⟩ v).cell? ⟨w4.heap.size, 4, none⟩ = some (.int .i64 qb) := (fun v => (Tx.blk (Tx.blk_far (a := ⟨g, 1, none⟩) kQ5 (show w4.heap.size ≠ g by omega) v)).1 4); have x5 : ∀ v, (w5.setCell ⟨g, 1, none⟩ v).cell? ⟨w4.heap.size, 5, none⟩ = some (.slice qka qkn qkc) := (fun v => (Tx.blk (Tx.blk_far (a := ⟨g, 1, none⟩) kQ5 (show w4.heap.size ≠ g by omega) v)).1 5); have KG5 := Lib.hid kg5; clear kg4 kg5 kR5 kQ5)
  | (go_at_call 117; refine (hOr _ hPS3).mono ?_; rintro e w4 h4; rw [HO.out] at h4; obtain ⟨qo, qf, qa, qb, qsa, qsn, qsc, qka, qkn, qkc, rfl, hq4, hP4, hF4⟩ := h4.get; have s4 := hF4.size; have KR4 := Lib.hid ((hF4.block w.heap.size (by omega) (by omega)).trans KR3.out); have hF4' := hF3.trans hF4; clear eg fg)
  | (go_at_call 252; refine (L0 _ hP1).mono ?_; rintro e w2 ⟨rfl, hb2⟩; have s2 := hb2.size; have kT2 : (w2.alloc (.cells #[.int .u8 40, .string ⟨tt.toArray⟩, .bool tg] 205)).heap[w2.heap.size]? = some (.cells #[.int .u8 40, .string ⟨tt.toArray⟩, .bool tg] 205 (0, 0)) := heap_alloc_new _ _; have kg2 : (w2.alloc (.cells #[.int .u8 40, .string ⟨tt.toArray⟩, .bool tg] 205)).heap[g]? = some (.cells #[.slice ta l.length tc, .int .i64 (A : Int)] 129 (0, 0)) := Tx.blk_later (Tx.blk_later KG1.out hb2) (Tx.newb w2 _); have kR2 : (w2.alloc (.cells #[.int .u8 40, .string ⟨tt.toArray⟩, .bool tg] 205)).heap[w.heap.size]? = some (.cells Qr.zeroQ 29 (0, 0)) := Tx.blk_later (Tx.blk_later KR1.out hb2) (Tx.newb w2 _); have hF2 : Qr.Fr g w (w2.alloc (.cells #[.int .u8 40, .string ⟨tt.toArray⟩, .bool tg] 205)) := (hF1.trans (.of_below hb2)).alloc _; have hP2 : Qr.PS g l r (w2.alloc (.cells #[.int .u8 40, .string ⟨tt.toArray⟩, .bool tg] 205)) := (hP1.below hb2).below (Tx.newb w2 _); have eg : (w2.alloc (.cells #[.int .u8 40, .string ⟨tt.toArray⟩, .bool tg] 205)).cell? ⟨g, 1, none⟩ = some (.int .i64 (A : Int)) := (Tx.blk kg2).1 1; have fg : ∀ i, (w2.alloc (.cells #[.int .u8 40, .string ⟨tt.toArray⟩, .bool tg] 205)).frozen? ⟨g, i, none⟩ = false := (Tx.blk kg2).2.1; have KT2 := Lib.hid kT2; have KG2 := Lib.hid kg2; have KR2 := Lib.hid kR2; clear kT2 kg2 kR2; have kg3 : ((w2.alloc (.cells #[.int .u8 40, .string ⟨tt.toArray⟩, .bool tg] 205)).setCell ⟨g, 1, none⟩ (.int .i64 ((A : Int) + 1))).heap[g]? = some (.cells #[.slice ta l.length tc, .int .i64 ((A : Int) + 1)] 129 (0, 0)) := Qr.blk_set1 KG2.out _; have hF3 : Qr.Fr g w ((w2.alloc (.cells #[.int .u8 40, .string ⟨tt.toArray⟩, .bool tg] 205)).setCell ⟨g, 1, none⟩ (.int .i64 ((A : Int) + 1))) := hF2.set rfl _; have hPS3 : Qr.PS g l r.tail ((w2.alloc (.cells #[.int .u8 40, .string ⟨tt.toArray⟩, .bool tg] 205)).setCell ⟨g, 1, none⟩ (.int .i64 ((A : Int) + 1))) := Qr.PS.of HPP.out KG.out hF3 HTE.out.1 kg3 HA1.out; have KR3 := Lib.hid (Tx.blk_far (a := ⟨g, 1, none⟩) KR2.out (show w.heap.size ≠ g by omega) (.int .i64 ((A : Int) + 1))); have s3 : ((w2.alloc (.cells #[.int .u8 40, .string ⟨tt.toArray⟩, .bool tg] 205)).setCell ⟨g, 1, none⟩ (.int .i64 ((A : Int) + 1))).heap.size = w2.heap.size + 1 := (by simp [World.setCell]); clear kg3)
  | (go_at_call 251; refine (begins_c g l r _ hP0).mono ?_; rintro e w1 ⟨rfl, hb1⟩; rw [HB.out]; have hP1 := hP0.below hb1; have s1 : w.heap.size < w1.heap.size := (by have := hb1.size; simp at this; omega); have KG1 := Lib.hid (Tx.blk_later (Tx.blk_later KG.out (Tx.newb w _)) hb1); have KR1 : Hid (w1.heap[w.heap.size]? = some (.cells Qr.zeroQ 29 (0, 0))) := Lib.hid (Tx.blk_later (heap_alloc_new w _) hb1); have hF1 : Qr.Fr g w w1 := ((Qr.Fr.refl g w).alloc _).trans (.of_below hb1)))
 exact ⟨rfl, rfl, (hF4'.trans hF5)⟩
set_option maxHeartbeats 800000 in
theorem prim_par_ok (g : Nat) (l r : List Qr.Tok) (w : World) (hP : Qr.PS g l r w) (kk : UInt8) (tt : List UInt8) (tg : Bool) (K : Int) (ht : Qr.lk r = ⟨kk, tt, tg⟩) (hK : (kk.toNat : Int) = K) (hb : Qr.begins r = true) (h40 : K = 40) (x : Qr.PR) (hOr : ∀ w, Qr.PS g l r.tail w → Calls Tryz.prog 117 #[.pointer (some ⟨g, 0, none⟩)] w (Qr.Res g l x w)) (q : Qr.Qy) (r' : List Qr.Tok) (ho : x = some (q, r')) (k5 : UInt8) (t5 : List UInt8) (g5 : Bool) (K5 : Int) (ht5 : Qr.lk r' = ⟨k5, t5, g5⟩) (hK5 : (k5.toNat : Int) = K5) (hr' : r' <:+ r) (h41 : k5 = 41) :
  Calls Tryz.prog 287 #[.pointer (some ⟨g, 0, none⟩)] w fun e w' => Qr.Res g l (some (q, r'.tail)) w e w' := by
 have hsl := hP.suf.length_le
 have hll := hP.len
 have hgl := hP.lt
 obtain ⟨ta, tc, kg, _, _⟩ := hP.blk
 obtain ⟨A, hA⟩ : ∃ A, l.length - r.length = A := ⟨_, rfl⟩
 rw [hA] at kg
 have hP0 := hP.below (Tx.newb w (.cells Qr.zeroQ 29))
 have KG := Lib.hid kg; clear kg
 have HPP := Lib.hid hP; clear hP
 have hk1 := Qr.begins_ne hb
 have hte := Qr.tail_eats hk1
 have L0 := fun w h => look0 (K := K) (w := w) (g := g) (l := l) ht hK h
 have HB := Lib.hid hb; clear hb
 have HTE := Lib.hid hte; clear hk1
 have hA1 : (A : Int) + 1 = ((l.length - r.tail.length : Nat) : Int) := by have := hte.2; rw [List.length_tail] at this ⊢; omega
 have hw1 := IntWalk.i64_in ((A : Int) + 1) ⟨by omega, by omega⟩
 have HA1 := Lib.hid hA1; clear hA1 hte ht hK
 subst h40
 have HO := Lib.hid ho; clear ho
 have L5 := fun w h => look0 (K := K5) (w := w) (g := g) (l := l) ht5 hK5 h
 obtain ⟨A5, hA5⟩ : ∃ A5, l.length - r'.length = A5 := ⟨_, rfl⟩
 have hw5 := IntWalk.i64_in ((A5 : Int) + 1) ⟨by omega, by omega⟩
 have HA5 := Lib.hid hA5
 have hte5 := Qr.tail_eats (r := r') (by rw [ht5]; show k5 ≠ 0; rw [h41]; decide)
 have hA6 : (A5 : Int) + 1 = ((l.length - r'.tail.length : Nat) : Int) := by
  have h1 := hte5.2
  have h2 := hr'.length_le
  rw [List.length_tail] at h1 ⊢
  omega
 have HA6 := Lib.hid hA6
 have HT5 := Lib.hid hte5
 have h9 : K5 = 41 := by rw [← hK5, h41]; rfl
 clear ht5 hK5 h41 hA5 hA6 hte5
 subst h9
 go_enter Tryz.func287, Tryz.ntmps287
 go_wp2_with (first
  | (go_at_call 252; refine (L5 _ (hP4.below (Tx.newb w4 (.cells #[.int .i64 qo, .int .i64 qf, .slice qsa qsn qsc, .int .i64 qa, .int .i64 qb, .slice qka qkn qkc] 29)))).mono ?_; rintro e w5 ⟨rfl, hb5⟩; have s5 := hb5.size; simp only [World.size_alloc] at s5; obtain ⟨ta4, tc4, kg4, _, _⟩ := hP4.blk; have KP4 := Lib.hid kg4; rw [HA5.out] at kg4; have kg5 := Tx.blk_later (Tx.blk_later kg4 (Tx.newb w4 (.cells #[.int .i64 qo, .int .i64 qf, .slice qsa qsn qsc, .int .i64 qa, .int .i64 qb, .slice qka qkn qkc] 29))) hb5; have kR5 := Tx.blk_later (Tx.blk_later KR4.out (Tx.newb w4 (.cells #[.int .i64 qo, .int .i64 qf, .slice qsa qsn qsc, .int .i64 qa, .int .i64 qb, .slice qka qkn qkc] 29))) hb5; have kQ5 := Tx.blk_later (heap_alloc_new w4 (.cells #[.int .i64 qo, .int .i64 qf, .slice qsa qsn qsc, .int .i64 qa, .int .i64 qb, .slice qka qkn qkc] 29)) hb5; have hF5 : Qr.Fr g w4 w5 := ((Qr.Fr.refl g w4).alloc _).trans (.of_below hb5); have e5 : w5.cell? ⟨g, 1, none⟩ = some (.int .i64 (A5 : Int)) := (Tx.blk kg5).1 1; have f5 : ∀ i, w5.frozen? ⟨g, i, none⟩ = false := (Tx.blk kg5).2.1; have fr5 : ∀ i, w5.frozen? ⟨w.heap.size, i, none⟩ = false := (Tx.blk kR5).2.1; have y0 : ∀ v, (w5.setCell ⟨g, 1, none⟩ v).cell? ⟨w.heap.size, 0, none⟩ = some (.int .i64 0) := (fun v => (Tx.blk (Tx.blk_far (a := ⟨g, 1, none⟩) kR5 (show w.heap.size ≠ g by omega) v)).1 0); have y1 : ∀ v, (w5.setCell ⟨g, 1, none⟩ v).cell? ⟨w.heap.size, 1, none⟩ = some (.int .i64 0) := (fun v => (Tx.blk (Tx.blk_far (a := ⟨g, 1, none⟩) kR5 (show w.heap.size ≠ g by omega) v)).1 1); have y2 : ∀ v, (w5.setCell ⟨g, 1, none⟩ v).cell? ⟨w.heap.size, 2, none⟩ = some (.slice none 0 0) := (fun v => (Tx.blk (Tx.blk_far (a := ⟨g, 1, none⟩) kR5 (show w.heap.size ≠ g by omega) v)).1 2); have y3 : ∀ v, (w5.setCell ⟨g, 1, none⟩ v).cell? ⟨w.heap.size, 3, none⟩ = some (.int .i64 0) := (fun v => (Tx.blk (Tx.blk_far (a := ⟨g, 1, none⟩) kR5 (show w.heap.size ≠ g by omega) v)).1 3); have y4 : ∀ v, (w5.setCell ⟨g, 1, none⟩ v).cell? ⟨w.heap.size, 4, none⟩ = some (.int .i64 0) := (fun v => (Tx.blk (Tx.blk_far (a := ⟨g, 1, none⟩) kR5 (show w.heap.size ≠ g by omega) v)).1 4); have y5 : ∀ v, (w5.setCell ⟨g, 1, none⟩ v).cell? ⟨w.heap.size, 5, none⟩ = some (.slice none 0 0) := (fun v => (Tx.blk (Tx.blk_far (a := ⟨g, 1, none⟩) kR5 (show w.heap.size ≠ g by omega) v)).1 5); have x0 : ∀ v, (w5.setCell ⟨g, 1, none⟩ v).cell? ⟨w4.heap.size, 0, none⟩ = some (.int .i64 qo) := (fun v => (Tx.blk (Tx.blk_far (a := ⟨g, 1, none⟩) kQ5 (show w4.heap.size ≠ g by omega) v)).1 0); have x1 : ∀ v, (w5.setCell ⟨g, 1, none⟩ v).cell? ⟨w4.heap.size, 1, none⟩ = some (.int .i64 qf) := (fun v => (Tx.blk (Tx.blk_far (a := ⟨g, 1, none⟩) kQ5 (show w4.heap.size ≠ g by omega) v)).1 1); have x2 : ∀ v, (w5.setCell ⟨g, 1, none⟩ v).cell? ⟨w4.heap.size, 2, none⟩ = some (.slice qsa qsn qsc) := (fun v => (Tx.blk (Tx.blk_far (a := ⟨g, 1, none⟩) kQ5 (show w4.heap.size ≠ g by omega) v)).1 2); have x3 : ∀ v, (w5.setCell ⟨g, 1, none⟩ v).cell? ⟨w4.heap.size, 3, none⟩ = some (.int .i64 qa) := (fun v => (Tx.blk (Tx.blk_far (a := ⟨g, 1, none⟩) kQ5 (show w4.heap.size ≠ g by omega) v)).1 3); have x4 : ∀ v, (w5.setCell ⟨g, 1, none⟩ v).cell? ⟨w4.heap.size, 4, none⟩ = some (.int .i64 qb) := (fun v => (Tx.blk (Tx.blk_far (a := ⟨g, 1, none⟩) kQ5 (show w4.heap.size ≠ g by omega) v)).1 4); have x5 : ∀ v, (w5.setCell ⟨g, 1, none⟩ v).cell? ⟨w4.heap.size, 5, none⟩ = some (.slice qka qkn qkc) := (fun v => (Tx.blk (Tx.blk_far (a := ⟨g, 1, none⟩) kQ5 (show w4.heap.size ≠ g by omega) v)).1 5); have KG5 := Lib.hid kg5; clear kg4 kg5 kR5 kQ5)
  | (go_at_call 117; refine (hOr _ hPS3).mono ?_; rintro e w4 h4; rw [HO.out] at h4; obtain ⟨qo, qf, qa, qb, qsa, qsn, qsc, qka, qkn, qkc, rfl, hq4, hP4, hF4⟩ := h4.get; have s4 := hF4.size; have KR4 := Lib.hid ((hF4.block w.heap.size (by omega) (by omega)).trans KR3.out); have hF4' := hF3.trans hF4; clear eg fg)
  | (go_at_call 252; refine (L0 _ hP1).mono ?_; rintro e w2 ⟨rfl, hb2⟩; have s2 := hb2.size; have kT2 : (w2.alloc (.cells #[.int .u8 40, .string ⟨tt.toArray⟩, .bool tg] 205)).heap[w2.heap.size]? = some (.cells #[.int .u8 40, .string ⟨tt.toArray⟩, .bool tg] 205 (0, 0)) := heap_alloc_new _ _; have kg2 : (w2.alloc (.cells #[.int .u8 40, .string ⟨tt.toArray⟩, .bool tg] 205)).heap[g]? = some (.cells #[.slice ta l.length tc, .int .i64 (A : Int)] 129 (0, 0)) := Tx.blk_later (Tx.blk_later KG1.out hb2) (Tx.newb w2 _); have kR2 : (w2.alloc (.cells #[.int .u8 40, .string ⟨tt.toArray⟩, .bool tg] 205)).heap[w.heap.size]? = some (.cells Qr.zeroQ 29 (0, 0)) := Tx.blk_later (Tx.blk_later KR1.out hb2) (Tx.newb w2 _); have hF2 : Qr.Fr g w (w2.alloc (.cells #[.int .u8 40, .string ⟨tt.toArray⟩, .bool tg] 205)) := (hF1.trans (.of_below hb2)).alloc _; have hP2 : Qr.PS g l r (w2.alloc (.cells #[.int .u8 40, .string ⟨tt.toArray⟩, .bool tg] 205)) := (hP1.below hb2).below (Tx.newb w2 _); have eg : (w2.alloc (.cells #[.int .u8 40, .string ⟨tt.toArray⟩, .bool tg] 205)).cell? ⟨g, 1, none⟩ = some (.int .i64 (A : Int)) := (Tx.blk kg2).1 1; have fg : ∀ i, (w2.alloc (.cells #[.int .u8 40, .string ⟨tt.toArray⟩, .bool tg] 205)).frozen? ⟨g, i, none⟩ = false := (Tx.blk kg2).2.1; have KT2 := Lib.hid kT2; have KG2 := Lib.hid kg2; have KR2 := Lib.hid kR2; clear kT2 kg2 kR2; have kg3 : ((w2.alloc (.cells #[.int .u8 40, .string ⟨tt.toArray⟩, .bool tg] 205)).setCell ⟨g, 1, none⟩ (.int .i64 ((A : Int) + 1))).heap[g]? = some (.cells #[.slice ta l.length tc, .int .i64 ((A : Int) + 1)] 129 (0, 0)) := Qr.blk_set1 KG2.out _; have hF3 : Qr.Fr g w ((w2.alloc (.cells #[.int .u8 40, .string ⟨tt.toArray⟩, .bool tg] 205)).setCell ⟨g, 1, none⟩ (.int .i64 ((A : Int) + 1))) := hF2.set rfl _; have hPS3 : Qr.PS g l r.tail ((w2.alloc (.cells #[.int .u8 40, .string ⟨tt.toArray⟩, .bool tg] 205)).setCell ⟨g, 1, none⟩ (.int .i64 ((A : Int) + 1))) := Qr.PS.of HPP.out KG.out hF3 HTE.out.1 kg3 HA1.out; have KR3 := Lib.hid (Tx.blk_far (a := ⟨g, 1, none⟩) KR2.out (show w.heap.size ≠ g by omega) (.int .i64 ((A : Int) + 1))); have s3 : ((w2.alloc (.cells #[.int .u8 40, .string ⟨tt.toArray⟩, .bool tg] 205)).setCell ⟨g, 1, none⟩ (.int .i64 ((A : Int) + 1))).heap.size = w2.heap.size + 1 := (by simp [World.setCell]); clear kg3)
  | (go_at_call 251; refine (begins_c g l r _ hP0).mono ?_; rintro e w1 ⟨rfl, hb1⟩; rw [HB.out]; have hP1 := hP0.below hb1; have s1 : w.heap.size < w1.heap.size := (by have := hb1.size; simp at this; omega); have KG1 := Lib.hid (Tx.blk_later (Tx.blk_later KG.out (Tx.newb w _)) hb1); have KR1 : Hid (w1.heap[w.heap.size]? = some (.cells Qr.zeroQ 29 (0, 0))) := Lib.hid (Tx.blk_later (heap_alloc_new w _) hb1); have hF1 : Qr.Fr g w w1 := ((Qr.Fr.refl g w).alloc _).trans (.of_below hb1)))
 refine bodyPost_ret (v := .agg #[.int .i64 qo, .int .i64 qf, .slice qsa qsn qsc, .int .i64 qa, .int .i64 qb, .slice qka qkn qkc]) (by simp [results, Tryz.results287, go_sem, y0, y1, y2, y3, y4, y5]) rfl ⟨⟨qo, qf, qsa, qsn, qsc, qa, qb, qka, qkn, qkc⟩, rfl, ?_, ?_, (Qr.Fr.put6 ((hF4'.trans hF5).set rfl _) (Nat.le_refl _) _ _ _ _ _ _)⟩
 ·exact (hq4.kp ((Qr.Kp.fr (hF5.set rfl _) (by omega)).trans (Qr.Kp.put6 (Qr.Kp.refl _ _) (by omega) _ _ _ _ _ _))).mono (by omega)
 ·exact Qr.PS.of' hP4 KP4.out (Tx.put6 ((hF5.set rfl _).below (Nat.le_refl _) hP4.lt) (by omega) _ _ _ _ _ _) HT5.out.1 (Qr.far6 (Qr.blk_set1 KG5.out _) (show g ≠ w.heap.size by omega) _ _ _ _ _ _) HA6.out
end Go.Proofs.YtlakomilichhnaaGreatDoor
namespace Go.Proofs.YtlakomilichhnaaGreatDoor
open Go.RowKit
set_option maxRecDepth 100000
attribute [local go_sem] Qr.run_tok0 Qr.run_tok1 Qr.run_tok2
set_option maxHeartbeats 1600000 in
theorem prim_dir_none (g : Nat) (l r : List Qr.Tok) (w : World) (hP : Qr.PS g l r w) (kk : UInt8) (tt : List UInt8) (tg : Bool) (K : Int) (ht : Qr.lk r = ⟨kk, tt, tg⟩) (hK : (kk.toNat : Int) = K) (hb : Qr.begins r = true) (nk : UInt8) (nt : List UInt8) (ng : Bool) (N : Int) (hn : Qr.lk1 r = ⟨nk, nt, ng⟩) (hN : (nk.toNat : Int) = N) (hw : Qr.word0 r = true) (h40 : ¬ K = 40) (hpass : (K == 114) = false ∨ (K = 114 ∧ (N == 58) = false) ∨ (K = 114 ∧ N = 58 ∧ ng = false)) (hx : Qr.pTerm true 0 r = none) :
  Calls Tryz.prog 287 #[.pointer (some ⟨g, 0, none⟩)] w fun e w' => e = .panicked [{ v := Qr.wrongP, recovered := false }] ∧ Qr.Fr g w w' := by
 have hsl := hP.suf.length_le
 have hll := hP.len
 have hgl := hP.lt
 obtain ⟨ta, tc, kg, _, _⟩ := hP.blk
 obtain ⟨A, hA⟩ : ∃ A, l.length - r.length = A := ⟨_, rfl⟩
 rw [hA] at kg
 have hP0 := hP.below (Tx.newb w (.cells Qr.zeroQ 29))
 have KG := Lib.hid kg; clear kg
 have HPP := Lib.hid hP; clear hP
 have hk1 := Qr.begins_ne hb
 have hte := Qr.tail_eats hk1
 have L0 := fun w h => look0 (K := K) (w := w) (g := g) (l := l) ht hK h
 have HB := Lib.hid hb; clear hb
 have HTE := Lib.hid hte; clear hk1
 have hA1 : (A : Int) + 1 = ((l.length - r.tail.length : Nat) : Int) := by have := hte.2; rw [List.length_tail] at this ⊢; omega
 have hw1 := IntWalk.i64_in ((A : Int) + 1) ⟨by omega, by omega⟩
 have HA1 := Lib.hid hA1; clear hA1 hte ht hK
 have L1 := fun w h => look1 (K := N) (w := w) (g := g) (l := l) hn hN h
 clear hN hn
 have n40 : (K == 40) = false := beq_eq_false_iff_ne.2 h40
 have HW := Lib.hid hw; clear hw
 have HX := Lib.hid hx; clear hx
 rcases hpass with hp | ⟨rfl, hp⟩ | ⟨rfl, rfl, rfl⟩
 ·go_enter Tryz.func287, Tryz.ntmps287
  go_wp2_with (first
   | (go_at_call 303; refine (term_c g l r _ hP3 HW.out).mono ?_; rintro e w4 h4; rw [HX.out] at h4; obtain ⟨rfl, hF4⟩ := h4.bad; have hF4' := hF3.trans hF4)
   | (go_at_call 252; refine (L1 _ hP2).mono ?_; rintro e w3 ⟨rfl, hb3⟩; have s3 := hb3.size; simp only [World.size_alloc] at s3; have kT3 : (w3.alloc (.cells #[.int .u8 N, .string ⟨nt.toArray⟩, .bool ng] 205)).heap[w2.heap.size]? = some (.cells #[.int .u8 K, .string ⟨tt.toArray⟩, .bool tg] 205 (0, 0)) := Tx.blk_later (Tx.blk_later KT2.out hb3) (Tx.newb w3 _); have kg3 : (w3.alloc (.cells #[.int .u8 N, .string ⟨nt.toArray⟩, .bool ng] 205)).heap[g]? = some (.cells #[.slice ta l.length tc, .int .i64 (A : Int)] 129 (0, 0)) := Tx.blk_later (Tx.blk_later KG2.out hb3) (Tx.newb w3 _); have kR3 : (w3.alloc (.cells #[.int .u8 N, .string ⟨nt.toArray⟩, .bool ng] 205)).heap[w.heap.size]? = some (.cells Qr.zeroQ 29 (0, 0)) := Tx.blk_later (Tx.blk_later KR2.out hb3) (Tx.newb w3 _); have hF3 : Qr.Fr g w (w3.alloc (.cells #[.int .u8 N, .string ⟨nt.toArray⟩, .bool ng] 205)) := (hF2.trans (.of_below hb3)).alloc _; have hP3 : Qr.PS g l r (w3.alloc (.cells #[.int .u8 N, .string ⟨nt.toArray⟩, .bool ng] 205)) := (hP2.below hb3).below (Tx.newb w3 _); have e30 : (w3.alloc (.cells #[.int .u8 N, .string ⟨nt.toArray⟩, .bool ng] 205)).cell? ⟨w2.heap.size, 0, none⟩ = some (.int .u8 K) := (Tx.blk kT3).1 0; have eg3 : (w3.alloc (.cells #[.int .u8 N, .string ⟨nt.toArray⟩, .bool ng] 205)).cell? ⟨g, 1, none⟩ = some (.int .i64 (A : Int)) := (Tx.blk kg3).1 1; have fg3 : ∀ i, (w3.alloc (.cells #[.int .u8 N, .string ⟨nt.toArray⟩, .bool ng] 205)).frozen? ⟨g, i, none⟩ = false := (Tx.blk kg3).2.1; have KT3 := Lib.hid kT3; have KG3 := Lib.hid kg3; have KR3 := Lib.hid kR3; clear kT3 kg3 kR3)
   | (go_at_call 252; refine (L0 _ hP1).mono ?_; rintro e w2 ⟨rfl, hb2⟩; have s2 := hb2.size; have kT2 : (w2.alloc (.cells #[.int .u8 K, .string ⟨tt.toArray⟩, .bool tg] 205)).heap[w2.heap.size]? = some (.cells #[.int .u8 K, .string ⟨tt.toArray⟩, .bool tg] 205 (0, 0)) := heap_alloc_new _ _; have kg2 : (w2.alloc (.cells #[.int .u8 K, .string ⟨tt.toArray⟩, .bool tg] 205)).heap[g]? = some (.cells #[.slice ta l.length tc, .int .i64 (A : Int)] 129 (0, 0)) := Tx.blk_later (Tx.blk_later KG1.out hb2) (Tx.newb w2 _); have kR2 : (w2.alloc (.cells #[.int .u8 K, .string ⟨tt.toArray⟩, .bool tg] 205)).heap[w.heap.size]? = some (.cells Qr.zeroQ 29 (0, 0)) := Tx.blk_later (Tx.blk_later KR1.out hb2) (Tx.newb w2 _); have hF2 : Qr.Fr g w (w2.alloc (.cells #[.int .u8 K, .string ⟨tt.toArray⟩, .bool tg] 205)) := (hF1.trans (.of_below hb2)).alloc _; have hP2 : Qr.PS g l r (w2.alloc (.cells #[.int .u8 K, .string ⟨tt.toArray⟩, .bool tg] 205)) := (hP1.below hb2).below (Tx.newb w2 _); have eg : (w2.alloc (.cells #[.int .u8 K, .string ⟨tt.toArray⟩, .bool tg] 205)).cell? ⟨g, 1, none⟩ = some (.int .i64 (A : Int)) := (Tx.blk kg2).1 1; have fg : ∀ i, (w2.alloc (.cells #[.int .u8 K, .string ⟨tt.toArray⟩, .bool tg] 205)).frozen? ⟨g, i, none⟩ = false := (Tx.blk kg2).2.1; have KT2 := Lib.hid kT2; have KG2 := Lib.hid kg2; have KR2 := Lib.hid kR2; clear kT2 kg2 kR2)
   | (go_at_call 251; refine (begins_c g l r _ hP0).mono ?_; rintro e w1 ⟨rfl, hb1⟩; rw [HB.out]; have hP1 := hP0.below hb1; have s1 : w.heap.size < w1.heap.size := (by have := hb1.size; simp at this; omega); have KG1 := Lib.hid (Tx.blk_later (Tx.blk_later KG.out (Tx.newb w _)) hb1); have KR1 : Hid (w1.heap[w.heap.size]? = some (.cells Qr.zeroQ 29 (0, 0))) := Lib.hid (Tx.blk_later (heap_alloc_new w _) hb1); have hF1 : Qr.Fr g w w1 := ((Qr.Fr.refl g w).alloc _).trans (.of_below hb1)))
  exact ⟨rfl, rfl, hF4'⟩
 ·clear n40 h40
  go_enter Tryz.func287, Tryz.ntmps287
  go_wp2_with (first
   | (go_at_call 303; refine (term_c g l r _ hP3 HW.out).mono ?_; rintro e w4 h4; rw [HX.out] at h4; obtain ⟨rfl, hF4⟩ := h4.bad; have hF4' := hF3.trans hF4)
   | (go_at_call 252; refine (L1 _ hP2).mono ?_; rintro e w3 ⟨rfl, hb3⟩; have s3 := hb3.size; simp only [World.size_alloc] at s3; have kT3 : (w3.alloc (.cells #[.int .u8 N, .string ⟨nt.toArray⟩, .bool ng] 205)).heap[w2.heap.size]? = some (.cells #[.int .u8 114, .string ⟨tt.toArray⟩, .bool tg] 205 (0, 0)) := Tx.blk_later (Tx.blk_later KT2.out hb3) (Tx.newb w3 _); have kg3 : (w3.alloc (.cells #[.int .u8 N, .string ⟨nt.toArray⟩, .bool ng] 205)).heap[g]? = some (.cells #[.slice ta l.length tc, .int .i64 (A : Int)] 129 (0, 0)) := Tx.blk_later (Tx.blk_later KG2.out hb3) (Tx.newb w3 _); have kR3 : (w3.alloc (.cells #[.int .u8 N, .string ⟨nt.toArray⟩, .bool ng] 205)).heap[w.heap.size]? = some (.cells Qr.zeroQ 29 (0, 0)) := Tx.blk_later (Tx.blk_later KR2.out hb3) (Tx.newb w3 _); have hF3 : Qr.Fr g w (w3.alloc (.cells #[.int .u8 N, .string ⟨nt.toArray⟩, .bool ng] 205)) := (hF2.trans (.of_below hb3)).alloc _; have hP3 : Qr.PS g l r (w3.alloc (.cells #[.int .u8 N, .string ⟨nt.toArray⟩, .bool ng] 205)) := (hP2.below hb3).below (Tx.newb w3 _); have e30 : (w3.alloc (.cells #[.int .u8 N, .string ⟨nt.toArray⟩, .bool ng] 205)).cell? ⟨w2.heap.size, 0, none⟩ = some (.int .u8 114) := (Tx.blk kT3).1 0; have eg3 : (w3.alloc (.cells #[.int .u8 N, .string ⟨nt.toArray⟩, .bool ng] 205)).cell? ⟨g, 1, none⟩ = some (.int .i64 (A : Int)) := (Tx.blk kg3).1 1; have fg3 : ∀ i, (w3.alloc (.cells #[.int .u8 N, .string ⟨nt.toArray⟩, .bool ng] 205)).frozen? ⟨g, i, none⟩ = false := (Tx.blk kg3).2.1; have KT3 := Lib.hid kT3; have KG3 := Lib.hid kg3; have KR3 := Lib.hid kR3; clear kT3 kg3 kR3)
   | (go_at_call 252; refine (L0 _ hP1).mono ?_; rintro e w2 ⟨rfl, hb2⟩; have s2 := hb2.size; have kT2 : (w2.alloc (.cells #[.int .u8 114, .string ⟨tt.toArray⟩, .bool tg] 205)).heap[w2.heap.size]? = some (.cells #[.int .u8 114, .string ⟨tt.toArray⟩, .bool tg] 205 (0, 0)) := heap_alloc_new _ _; have kg2 : (w2.alloc (.cells #[.int .u8 114, .string ⟨tt.toArray⟩, .bool tg] 205)).heap[g]? = some (.cells #[.slice ta l.length tc, .int .i64 (A : Int)] 129 (0, 0)) := Tx.blk_later (Tx.blk_later KG1.out hb2) (Tx.newb w2 _); have kR2 : (w2.alloc (.cells #[.int .u8 114, .string ⟨tt.toArray⟩, .bool tg] 205)).heap[w.heap.size]? = some (.cells Qr.zeroQ 29 (0, 0)) := Tx.blk_later (Tx.blk_later KR1.out hb2) (Tx.newb w2 _); have hF2 : Qr.Fr g w (w2.alloc (.cells #[.int .u8 114, .string ⟨tt.toArray⟩, .bool tg] 205)) := (hF1.trans (.of_below hb2)).alloc _; have hP2 : Qr.PS g l r (w2.alloc (.cells #[.int .u8 114, .string ⟨tt.toArray⟩, .bool tg] 205)) := (hP1.below hb2).below (Tx.newb w2 _); have eg : (w2.alloc (.cells #[.int .u8 114, .string ⟨tt.toArray⟩, .bool tg] 205)).cell? ⟨g, 1, none⟩ = some (.int .i64 (A : Int)) := (Tx.blk kg2).1 1; have fg : ∀ i, (w2.alloc (.cells #[.int .u8 114, .string ⟨tt.toArray⟩, .bool tg] 205)).frozen? ⟨g, i, none⟩ = false := (Tx.blk kg2).2.1; have KT2 := Lib.hid kT2; have KG2 := Lib.hid kg2; have KR2 := Lib.hid kR2; clear kT2 kg2 kR2)
   | (go_at_call 251; refine (begins_c g l r _ hP0).mono ?_; rintro e w1 ⟨rfl, hb1⟩; rw [HB.out]; have hP1 := hP0.below hb1; have s1 : w.heap.size < w1.heap.size := (by have := hb1.size; simp at this; omega); have KG1 := Lib.hid (Tx.blk_later (Tx.blk_later KG.out (Tx.newb w _)) hb1); have KR1 : Hid (w1.heap[w.heap.size]? = some (.cells Qr.zeroQ 29 (0, 0))) := Lib.hid (Tx.blk_later (heap_alloc_new w _) hb1); have hF1 : Qr.Fr g w w1 := ((Qr.Fr.refl g w).alloc _).trans (.of_below hb1)))
  exact ⟨rfl, rfl, hF4'⟩
 ·clear n40 h40
  go_enter Tryz.func287, Tryz.ntmps287
  go_wp2_with (first
   | (go_at_call 303; refine (term_c g l r _ hP3 HW.out).mono ?_; rintro e w4 h4; rw [HX.out] at h4; obtain ⟨rfl, hF4⟩ := h4.bad; have hF4' := hF3.trans hF4)
   | (go_at_call 252; refine (L1 _ hP2).mono ?_; rintro e w3 ⟨rfl, hb3⟩; have s3 := hb3.size; simp only [World.size_alloc] at s3; have kT3 : (w3.alloc (.cells #[.int .u8 58, .string ⟨nt.toArray⟩, .bool false] 205)).heap[w2.heap.size]? = some (.cells #[.int .u8 114, .string ⟨tt.toArray⟩, .bool tg] 205 (0, 0)) := Tx.blk_later (Tx.blk_later KT2.out hb3) (Tx.newb w3 _); have kg3 : (w3.alloc (.cells #[.int .u8 58, .string ⟨nt.toArray⟩, .bool false] 205)).heap[g]? = some (.cells #[.slice ta l.length tc, .int .i64 (A : Int)] 129 (0, 0)) := Tx.blk_later (Tx.blk_later KG2.out hb3) (Tx.newb w3 _); have kR3 : (w3.alloc (.cells #[.int .u8 58, .string ⟨nt.toArray⟩, .bool false] 205)).heap[w.heap.size]? = some (.cells Qr.zeroQ 29 (0, 0)) := Tx.blk_later (Tx.blk_later KR2.out hb3) (Tx.newb w3 _); have hF3 : Qr.Fr g w (w3.alloc (.cells #[.int .u8 58, .string ⟨nt.toArray⟩, .bool false] 205)) := (hF2.trans (.of_below hb3)).alloc _; have hP3 : Qr.PS g l r (w3.alloc (.cells #[.int .u8 58, .string ⟨nt.toArray⟩, .bool false] 205)) := (hP2.below hb3).below (Tx.newb w3 _); have e30 : (w3.alloc (.cells #[.int .u8 58, .string ⟨nt.toArray⟩, .bool false] 205)).cell? ⟨w2.heap.size, 0, none⟩ = some (.int .u8 114) := (Tx.blk kT3).1 0; have eg3 : (w3.alloc (.cells #[.int .u8 58, .string ⟨nt.toArray⟩, .bool false] 205)).cell? ⟨g, 1, none⟩ = some (.int .i64 (A : Int)) := (Tx.blk kg3).1 1; have fg3 : ∀ i, (w3.alloc (.cells #[.int .u8 58, .string ⟨nt.toArray⟩, .bool false] 205)).frozen? ⟨g, i, none⟩ = false := (Tx.blk kg3).2.1; have KT3 := Lib.hid kT3; have KG3 := Lib.hid kg3; have KR3 := Lib.hid kR3; clear kT3 kg3 kR3)
   | (go_at_call 252; refine (L0 _ hP1).mono ?_; rintro e w2 ⟨rfl, hb2⟩; have s2 := hb2.size; have kT2 : (w2.alloc (.cells #[.int .u8 114, .string ⟨tt.toArray⟩, .bool tg] 205)).heap[w2.heap.size]? = some (.cells #[.int .u8 114, .string ⟨tt.toArray⟩, .bool tg] 205 (0, 0)) := heap_alloc_new _ _; have kg2 : (w2.alloc (.cells #[.int .u8 114, .string ⟨tt.toArray⟩, .bool tg] 205)).heap[g]? = some (.cells #[.slice ta l.length tc, .int .i64 (A : Int)] 129 (0, 0)) := Tx.blk_later (Tx.blk_later KG1.out hb2) (Tx.newb w2 _); have kR2 : (w2.alloc (.cells #[.int .u8 114, .string ⟨tt.toArray⟩, .bool tg] 205)).heap[w.heap.size]? = some (.cells Qr.zeroQ 29 (0, 0)) := Tx.blk_later (Tx.blk_later KR1.out hb2) (Tx.newb w2 _); have hF2 : Qr.Fr g w (w2.alloc (.cells #[.int .u8 114, .string ⟨tt.toArray⟩, .bool tg] 205)) := (hF1.trans (.of_below hb2)).alloc _; have hP2 : Qr.PS g l r (w2.alloc (.cells #[.int .u8 114, .string ⟨tt.toArray⟩, .bool tg] 205)) := (hP1.below hb2).below (Tx.newb w2 _); have eg : (w2.alloc (.cells #[.int .u8 114, .string ⟨tt.toArray⟩, .bool tg] 205)).cell? ⟨g, 1, none⟩ = some (.int .i64 (A : Int)) := (Tx.blk kg2).1 1; have fg : ∀ i, (w2.alloc (.cells #[.int .u8 114, .string ⟨tt.toArray⟩, .bool tg] 205)).frozen? ⟨g, i, none⟩ = false := (Tx.blk kg2).2.1; have KT2 := Lib.hid kT2; have KG2 := Lib.hid kg2; have KR2 := Lib.hid kR2; clear kT2 kg2 kR2)
   | (go_at_call 251; refine (begins_c g l r _ hP0).mono ?_; rintro e w1 ⟨rfl, hb1⟩; rw [HB.out]; have hP1 := hP0.below hb1; have s1 : w.heap.size < w1.heap.size := (by have := hb1.size; simp at this; omega); have KG1 := Lib.hid (Tx.blk_later (Tx.blk_later KG.out (Tx.newb w _)) hb1); have KR1 : Hid (w1.heap[w.heap.size]? = some (.cells Qr.zeroQ 29 (0, 0))) := Lib.hid (Tx.blk_later (heap_alloc_new w _) hb1); have hF1 : Qr.Fr g w w1 := ((Qr.Fr.refl g w).alloc _).trans (.of_below hb1)))
  exact ⟨rfl, rfl, hF4'⟩
set_option maxHeartbeats 1600000 in
theorem prim_dir_ok (g : Nat) (l r : List Qr.Tok) (w : World) (hP : Qr.PS g l r w) (kk : UInt8) (tt : List UInt8) (tg : Bool) (K : Int) (ht : Qr.lk r = ⟨kk, tt, tg⟩) (hK : (kk.toNat : Int) = K) (hb : Qr.begins r = true) (nk : UInt8) (nt : List UInt8) (ng : Bool) (N : Int) (hn : Qr.lk1 r = ⟨nk, nt, ng⟩) (hN : (nk.toNat : Int) = N) (hw : Qr.word0 r = true) (h40 : ¬ K = 40) (hpass : (K == 114) = false ∨ (K = 114 ∧ (N == 58) = false) ∨ (K = 114 ∧ N = 58 ∧ ng = false)) (q : Qr.Qy) (r' : List Qr.Tok) (hx : Qr.pTerm true 0 r = some (q, r')) :
  Calls Tryz.prog 287 #[.pointer (some ⟨g, 0, none⟩)] w fun e w' => Qr.Res g l (some (q, r')) w e w' := by
 have hsl := hP.suf.length_le
 have hll := hP.len
 have hgl := hP.lt
 obtain ⟨ta, tc, kg, _, _⟩ := hP.blk
 obtain ⟨A, hA⟩ : ∃ A, l.length - r.length = A := ⟨_, rfl⟩
 rw [hA] at kg
 have hP0 := hP.below (Tx.newb w (.cells Qr.zeroQ 29))
 have KG := Lib.hid kg; clear kg
 have HPP := Lib.hid hP; clear hP
 have hk1 := Qr.begins_ne hb
 have hte := Qr.tail_eats hk1
 have L0 := fun w h => look0 (K := K) (w := w) (g := g) (l := l) ht hK h
 have HB := Lib.hid hb; clear hb
 have HTE := Lib.hid hte; clear hk1
 have hA1 : (A : Int) + 1 = ((l.length - r.tail.length : Nat) : Int) := by have := hte.2; rw [List.length_tail] at this ⊢; omega
 have hw1 := IntWalk.i64_in ((A : Int) + 1) ⟨by omega, by omega⟩
 have HA1 := Lib.hid hA1; clear hA1 hte ht hK
 have L1 := fun w h => look1 (K := N) (w := w) (g := g) (l := l) hn hN h
 clear hN hn
 have n40 : (K == 40) = false := beq_eq_false_iff_ne.2 h40
 have HW := Lib.hid hw; clear hw
 have HX := Lib.hid hx; clear hx
 rcases hpass with hp | ⟨rfl, hp⟩ | ⟨rfl, rfl, rfl⟩
 ·go_enter Tryz.func287, Tryz.ntmps287
  go_wp2_with (first
   | (go_at_call 303; refine (term_c g l r _ hP3 HW.out).mono ?_; rintro e w4 h4; rw [HX.out] at h4; obtain ⟨qo, qf, qa, qb, qsa, qsn, qsc, qka, qkn, qkc, rfl, hq4, hP4, hF4⟩ := h4.get; have s4 := hF4.size; simp only [World.size_alloc] at s4; have kR4 := (hF4.block w.heap.size (by omega) (by first | omega | (simp; omega))).trans KR3.out; have hF4' := hF3.trans hF4; have z0 : w4.cell? ⟨w.heap.size, 0, none⟩ = some (.int .i64 0) := (Tx.blk kR4).1 0; have z1 : w4.cell? ⟨w.heap.size, 1, none⟩ = some (.int .i64 0) := (Tx.blk kR4).1 1; have z2 : w4.cell? ⟨w.heap.size, 2, none⟩ = some (.slice none 0 0) := (Tx.blk kR4).1 2; have z3 : w4.cell? ⟨w.heap.size, 3, none⟩ = some (.int .i64 0) := (Tx.blk kR4).1 3; have z4 : w4.cell? ⟨w.heap.size, 4, none⟩ = some (.int .i64 0) := (Tx.blk kR4).1 4; have z5 : w4.cell? ⟨w.heap.size, 5, none⟩ = some (.slice none 0 0) := (Tx.blk kR4).1 5; have fr9 : ∀ i, w4.frozen? ⟨w.heap.size, i, none⟩ = false := (Tx.blk kR4).2.1; obtain ⟨ta4, tc4, kg4, _, _⟩ := hP4.blk; have KP4 := Lib.hid kg4; clear kg4 kR4)
   | (go_at_call 252; refine (L1 _ hP2).mono ?_; rintro e w3 ⟨rfl, hb3⟩; have s3 := hb3.size; simp only [World.size_alloc] at s3; have kT3 : (w3.alloc (.cells #[.int .u8 N, .string ⟨nt.toArray⟩, .bool ng] 205)).heap[w2.heap.size]? = some (.cells #[.int .u8 K, .string ⟨tt.toArray⟩, .bool tg] 205 (0, 0)) := Tx.blk_later (Tx.blk_later KT2.out hb3) (Tx.newb w3 _); have kg3 : (w3.alloc (.cells #[.int .u8 N, .string ⟨nt.toArray⟩, .bool ng] 205)).heap[g]? = some (.cells #[.slice ta l.length tc, .int .i64 (A : Int)] 129 (0, 0)) := Tx.blk_later (Tx.blk_later KG2.out hb3) (Tx.newb w3 _); have kR3 : (w3.alloc (.cells #[.int .u8 N, .string ⟨nt.toArray⟩, .bool ng] 205)).heap[w.heap.size]? = some (.cells Qr.zeroQ 29 (0, 0)) := Tx.blk_later (Tx.blk_later KR2.out hb3) (Tx.newb w3 _); have hF3 : Qr.Fr g w (w3.alloc (.cells #[.int .u8 N, .string ⟨nt.toArray⟩, .bool ng] 205)) := (hF2.trans (.of_below hb3)).alloc _; have hP3 : Qr.PS g l r (w3.alloc (.cells #[.int .u8 N, .string ⟨nt.toArray⟩, .bool ng] 205)) := (hP2.below hb3).below (Tx.newb w3 _); have e30 : (w3.alloc (.cells #[.int .u8 N, .string ⟨nt.toArray⟩, .bool ng] 205)).cell? ⟨w2.heap.size, 0, none⟩ = some (.int .u8 K) := (Tx.blk kT3).1 0; have eg3 : (w3.alloc (.cells #[.int .u8 N, .string ⟨nt.toArray⟩, .bool ng] 205)).cell? ⟨g, 1, none⟩ = some (.int .i64 (A : Int)) := (Tx.blk kg3).1 1; have fg3 : ∀ i, (w3.alloc (.cells #[.int .u8 N, .string ⟨nt.toArray⟩, .bool ng] 205)).frozen? ⟨g, i, none⟩ = false := (Tx.blk kg3).2.1; have KT3 := Lib.hid kT3; have KG3 := Lib.hid kg3; have KR3 := Lib.hid kR3; clear kT3 kg3 kR3)
   | (go_at_call 252; refine (L0 _ hP1).mono ?_; rintro e w2 ⟨rfl, hb2⟩; have s2 := hb2.size; have kT2 : (w2.alloc (.cells #[.int .u8 K, .string ⟨tt.toArray⟩, .bool tg] 205)).heap[w2.heap.size]? = some (.cells #[.int .u8 K, .string ⟨tt.toArray⟩, .bool tg] 205 (0, 0)) := heap_alloc_new _ _; have kg2 : (w2.alloc (.cells #[.int .u8 K, .string ⟨tt.toArray⟩, .bool tg] 205)).heap[g]? = some (.cells #[.slice ta l.length tc, .int .i64 (A : Int)] 129 (0, 0)) := Tx.blk_later (Tx.blk_later KG1.out hb2) (Tx.newb w2 _); have kR2 : (w2.alloc (.cells #[.int .u8 K, .string ⟨tt.toArray⟩, .bool tg] 205)).heap[w.heap.size]? = some (.cells Qr.zeroQ 29 (0, 0)) := Tx.blk_later (Tx.blk_later KR1.out hb2) (Tx.newb w2 _); have hF2 : Qr.Fr g w (w2.alloc (.cells #[.int .u8 K, .string ⟨tt.toArray⟩, .bool tg] 205)) := (hF1.trans (.of_below hb2)).alloc _; have hP2 : Qr.PS g l r (w2.alloc (.cells #[.int .u8 K, .string ⟨tt.toArray⟩, .bool tg] 205)) := (hP1.below hb2).below (Tx.newb w2 _); have eg : (w2.alloc (.cells #[.int .u8 K, .string ⟨tt.toArray⟩, .bool tg] 205)).cell? ⟨g, 1, none⟩ = some (.int .i64 (A : Int)) := (Tx.blk kg2).1 1; have fg : ∀ i, (w2.alloc (.cells #[.int .u8 K, .string ⟨tt.toArray⟩, .bool tg] 205)).frozen? ⟨g, i, none⟩ = false := (Tx.blk kg2).2.1; have KT2 := Lib.hid kT2; have KG2 := Lib.hid kg2; have KR2 := Lib.hid kR2; clear kT2 kg2 kR2)
   | (go_at_call 251; refine (begins_c g l r _ hP0).mono ?_; rintro e w1 ⟨rfl, hb1⟩; rw [HB.out]; have hP1 := hP0.below hb1; have s1 : w.heap.size < w1.heap.size := (by have := hb1.size; simp at this; omega); have KG1 := Lib.hid (Tx.blk_later (Tx.blk_later KG.out (Tx.newb w _)) hb1); have KR1 : Hid (w1.heap[w.heap.size]? = some (.cells Qr.zeroQ 29 (0, 0))) := Lib.hid (Tx.blk_later (heap_alloc_new w _) hb1); have hF1 : Qr.Fr g w w1 := ((Qr.Fr.refl g w).alloc _).trans (.of_below hb1)))
  refine bodyPost_ret (v := .agg #[.int .i64 qo, .int .i64 qf, .slice qsa qsn qsc, .int .i64 qa, .int .i64 qb, .slice qka qkn qkc]) (by simp [results, Tryz.results287, go_sem, z0, z1, z2, z3, z4, z5]) rfl ⟨⟨qo, qf, qsa, qsn, qsc, qa, qb, qka, qkn, qkc⟩, rfl, (hq4.kp (Qr.Kp.put6 (Qr.Kp.refl _ _) (by simp; omega) _ _ _ _ _ _)).mono (by simp; omega), Qr.PS.of' hP4 KP4.out (Tx.put6 (Below.refl _ _) (by omega) _ _ _ _ _ _) (List.suffix_refl _) (Qr.far6 KP4.out (show g ≠ w.heap.size by omega) _ _ _ _ _ _) rfl, Qr.Fr.put6 hF4' (Nat.le_refl _) _ _ _ _ _ _⟩
 ·clear n40 h40
  go_enter Tryz.func287, Tryz.ntmps287
  go_wp2_with (first
   | (go_at_call 303; refine (term_c g l r _ hP3 HW.out).mono ?_; rintro e w4 h4; rw [HX.out] at h4; obtain ⟨qo, qf, qa, qb, qsa, qsn, qsc, qka, qkn, qkc, rfl, hq4, hP4, hF4⟩ := h4.get; have s4 := hF4.size; simp only [World.size_alloc] at s4; have kR4 := (hF4.block w.heap.size (by omega) (by first | omega | (simp; omega))).trans KR3.out; have hF4' := hF3.trans hF4; have z0 : w4.cell? ⟨w.heap.size, 0, none⟩ = some (.int .i64 0) := (Tx.blk kR4).1 0; have z1 : w4.cell? ⟨w.heap.size, 1, none⟩ = some (.int .i64 0) := (Tx.blk kR4).1 1; have z2 : w4.cell? ⟨w.heap.size, 2, none⟩ = some (.slice none 0 0) := (Tx.blk kR4).1 2; have z3 : w4.cell? ⟨w.heap.size, 3, none⟩ = some (.int .i64 0) := (Tx.blk kR4).1 3; have z4 : w4.cell? ⟨w.heap.size, 4, none⟩ = some (.int .i64 0) := (Tx.blk kR4).1 4; have z5 : w4.cell? ⟨w.heap.size, 5, none⟩ = some (.slice none 0 0) := (Tx.blk kR4).1 5; have fr9 : ∀ i, w4.frozen? ⟨w.heap.size, i, none⟩ = false := (Tx.blk kR4).2.1; obtain ⟨ta4, tc4, kg4, _, _⟩ := hP4.blk; have KP4 := Lib.hid kg4; clear kg4 kR4)
   | (go_at_call 252; refine (L1 _ hP2).mono ?_; rintro e w3 ⟨rfl, hb3⟩; have s3 := hb3.size; simp only [World.size_alloc] at s3; have kT3 : (w3.alloc (.cells #[.int .u8 N, .string ⟨nt.toArray⟩, .bool ng] 205)).heap[w2.heap.size]? = some (.cells #[.int .u8 114, .string ⟨tt.toArray⟩, .bool tg] 205 (0, 0)) := Tx.blk_later (Tx.blk_later KT2.out hb3) (Tx.newb w3 _); have kg3 : (w3.alloc (.cells #[.int .u8 N, .string ⟨nt.toArray⟩, .bool ng] 205)).heap[g]? = some (.cells #[.slice ta l.length tc, .int .i64 (A : Int)] 129 (0, 0)) := Tx.blk_later (Tx.blk_later KG2.out hb3) (Tx.newb w3 _); have kR3 : (w3.alloc (.cells #[.int .u8 N, .string ⟨nt.toArray⟩, .bool ng] 205)).heap[w.heap.size]? = some (.cells Qr.zeroQ 29 (0, 0)) := Tx.blk_later (Tx.blk_later KR2.out hb3) (Tx.newb w3 _); have hF3 : Qr.Fr g w (w3.alloc (.cells #[.int .u8 N, .string ⟨nt.toArray⟩, .bool ng] 205)) := (hF2.trans (.of_below hb3)).alloc _; have hP3 : Qr.PS g l r (w3.alloc (.cells #[.int .u8 N, .string ⟨nt.toArray⟩, .bool ng] 205)) := (hP2.below hb3).below (Tx.newb w3 _); have e30 : (w3.alloc (.cells #[.int .u8 N, .string ⟨nt.toArray⟩, .bool ng] 205)).cell? ⟨w2.heap.size, 0, none⟩ = some (.int .u8 114) := (Tx.blk kT3).1 0; have eg3 : (w3.alloc (.cells #[.int .u8 N, .string ⟨nt.toArray⟩, .bool ng] 205)).cell? ⟨g, 1, none⟩ = some (.int .i64 (A : Int)) := (Tx.blk kg3).1 1; have fg3 : ∀ i, (w3.alloc (.cells #[.int .u8 N, .string ⟨nt.toArray⟩, .bool ng] 205)).frozen? ⟨g, i, none⟩ = false := (Tx.blk kg3).2.1; have KT3 := Lib.hid kT3; have KG3 := Lib.hid kg3; have KR3 := Lib.hid kR3; clear kT3 kg3 kR3)
   | (go_at_call 252; refine (L0 _ hP1).mono ?_; rintro e w2 ⟨rfl, hb2⟩; have s2 := hb2.size; have kT2 : (w2.alloc (.cells #[.int .u8 114, .string ⟨tt.toArray⟩, .bool tg] 205)).heap[w2.heap.size]? = some (.cells #[.int .u8 114, .string ⟨tt.toArray⟩, .bool tg] 205 (0, 0)) := heap_alloc_new _ _; have kg2 : (w2.alloc (.cells #[.int .u8 114, .string ⟨tt.toArray⟩, .bool tg] 205)).heap[g]? = some (.cells #[.slice ta l.length tc, .int .i64 (A : Int)] 129 (0, 0)) := Tx.blk_later (Tx.blk_later KG1.out hb2) (Tx.newb w2 _); have kR2 : (w2.alloc (.cells #[.int .u8 114, .string ⟨tt.toArray⟩, .bool tg] 205)).heap[w.heap.size]? = some (.cells Qr.zeroQ 29 (0, 0)) := Tx.blk_later (Tx.blk_later KR1.out hb2) (Tx.newb w2 _); have hF2 : Qr.Fr g w (w2.alloc (.cells #[.int .u8 114, .string ⟨tt.toArray⟩, .bool tg] 205)) := (hF1.trans (.of_below hb2)).alloc _; have hP2 : Qr.PS g l r (w2.alloc (.cells #[.int .u8 114, .string ⟨tt.toArray⟩, .bool tg] 205)) := (hP1.below hb2).below (Tx.newb w2 _); have eg : (w2.alloc (.cells #[.int .u8 114, .string ⟨tt.toArray⟩, .bool tg] 205)).cell? ⟨g, 1, none⟩ = some (.int .i64 (A : Int)) := (Tx.blk kg2).1 1; have fg : ∀ i, (w2.alloc (.cells #[.int .u8 114, .string ⟨tt.toArray⟩, .bool tg] 205)).frozen? ⟨g, i, none⟩ = false := (Tx.blk kg2).2.1; have KT2 := Lib.hid kT2; have KG2 := Lib.hid kg2; have KR2 := Lib.hid kR2; clear kT2 kg2 kR2)
   | (go_at_call 251; refine (begins_c g l r _ hP0).mono ?_; rintro e w1 ⟨rfl, hb1⟩; rw [HB.out]; have hP1 := hP0.below hb1; have s1 : w.heap.size < w1.heap.size := (by have := hb1.size; simp at this; omega); have KG1 := Lib.hid (Tx.blk_later (Tx.blk_later KG.out (Tx.newb w _)) hb1); have KR1 : Hid (w1.heap[w.heap.size]? = some (.cells Qr.zeroQ 29 (0, 0))) := Lib.hid (Tx.blk_later (heap_alloc_new w _) hb1); have hF1 : Qr.Fr g w w1 := ((Qr.Fr.refl g w).alloc _).trans (.of_below hb1)))
  refine bodyPost_ret (v := .agg #[.int .i64 qo, .int .i64 qf, .slice qsa qsn qsc, .int .i64 qa, .int .i64 qb, .slice qka qkn qkc]) (by simp [results, Tryz.results287, go_sem, z0, z1, z2, z3, z4, z5]) rfl ⟨⟨qo, qf, qsa, qsn, qsc, qa, qb, qka, qkn, qkc⟩, rfl, (hq4.kp (Qr.Kp.put6 (Qr.Kp.refl _ _) (by simp; omega) _ _ _ _ _ _)).mono (by simp; omega), Qr.PS.of' hP4 KP4.out (Tx.put6 (Below.refl _ _) (by omega) _ _ _ _ _ _) (List.suffix_refl _) (Qr.far6 KP4.out (show g ≠ w.heap.size by omega) _ _ _ _ _ _) rfl, Qr.Fr.put6 hF4' (Nat.le_refl _) _ _ _ _ _ _⟩
 ·clear n40 h40
  go_enter Tryz.func287, Tryz.ntmps287
  go_wp2_with (first
   | (go_at_call 303; refine (term_c g l r _ hP3 HW.out).mono ?_; rintro e w4 h4; rw [HX.out] at h4; obtain ⟨qo, qf, qa, qb, qsa, qsn, qsc, qka, qkn, qkc, rfl, hq4, hP4, hF4⟩ := h4.get; have s4 := hF4.size; simp only [World.size_alloc] at s4; have kR4 := (hF4.block w.heap.size (by omega) (by first | omega | (simp; omega))).trans KR3.out; have hF4' := hF3.trans hF4; have z0 : w4.cell? ⟨w.heap.size, 0, none⟩ = some (.int .i64 0) := (Tx.blk kR4).1 0; have z1 : w4.cell? ⟨w.heap.size, 1, none⟩ = some (.int .i64 0) := (Tx.blk kR4).1 1; have z2 : w4.cell? ⟨w.heap.size, 2, none⟩ = some (.slice none 0 0) := (Tx.blk kR4).1 2; have z3 : w4.cell? ⟨w.heap.size, 3, none⟩ = some (.int .i64 0) := (Tx.blk kR4).1 3; have z4 : w4.cell? ⟨w.heap.size, 4, none⟩ = some (.int .i64 0) := (Tx.blk kR4).1 4; have z5 : w4.cell? ⟨w.heap.size, 5, none⟩ = some (.slice none 0 0) := (Tx.blk kR4).1 5; have fr9 : ∀ i, w4.frozen? ⟨w.heap.size, i, none⟩ = false := (Tx.blk kR4).2.1; obtain ⟨ta4, tc4, kg4, _, _⟩ := hP4.blk; have KP4 := Lib.hid kg4; clear kg4 kR4)
   | (go_at_call 252; refine (L1 _ hP2).mono ?_; rintro e w3 ⟨rfl, hb3⟩; have s3 := hb3.size; simp only [World.size_alloc] at s3; have kT3 : (w3.alloc (.cells #[.int .u8 58, .string ⟨nt.toArray⟩, .bool false] 205)).heap[w2.heap.size]? = some (.cells #[.int .u8 114, .string ⟨tt.toArray⟩, .bool tg] 205 (0, 0)) := Tx.blk_later (Tx.blk_later KT2.out hb3) (Tx.newb w3 _); have kg3 : (w3.alloc (.cells #[.int .u8 58, .string ⟨nt.toArray⟩, .bool false] 205)).heap[g]? = some (.cells #[.slice ta l.length tc, .int .i64 (A : Int)] 129 (0, 0)) := Tx.blk_later (Tx.blk_later KG2.out hb3) (Tx.newb w3 _); have kR3 : (w3.alloc (.cells #[.int .u8 58, .string ⟨nt.toArray⟩, .bool false] 205)).heap[w.heap.size]? = some (.cells Qr.zeroQ 29 (0, 0)) := Tx.blk_later (Tx.blk_later KR2.out hb3) (Tx.newb w3 _); have hF3 : Qr.Fr g w (w3.alloc (.cells #[.int .u8 58, .string ⟨nt.toArray⟩, .bool false] 205)) := (hF2.trans (.of_below hb3)).alloc _; have hP3 : Qr.PS g l r (w3.alloc (.cells #[.int .u8 58, .string ⟨nt.toArray⟩, .bool false] 205)) := (hP2.below hb3).below (Tx.newb w3 _); have e30 : (w3.alloc (.cells #[.int .u8 58, .string ⟨nt.toArray⟩, .bool false] 205)).cell? ⟨w2.heap.size, 0, none⟩ = some (.int .u8 114) := (Tx.blk kT3).1 0; have eg3 : (w3.alloc (.cells #[.int .u8 58, .string ⟨nt.toArray⟩, .bool false] 205)).cell? ⟨g, 1, none⟩ = some (.int .i64 (A : Int)) := (Tx.blk kg3).1 1; have fg3 : ∀ i, (w3.alloc (.cells #[.int .u8 58, .string ⟨nt.toArray⟩, .bool false] 205)).frozen? ⟨g, i, none⟩ = false := (Tx.blk kg3).2.1; have KT3 := Lib.hid kT3; have KG3 := Lib.hid kg3; have KR3 := Lib.hid kR3; clear kT3 kg3 kR3)
   | (go_at_call 252; refine (L0 _ hP1).mono ?_; rintro e w2 ⟨rfl, hb2⟩; have s2 := hb2.size; have kT2 : (w2.alloc (.cells #[.int .u8 114, .string ⟨tt.toArray⟩, .bool tg] 205)).heap[w2.heap.size]? = some (.cells #[.int .u8 114, .string ⟨tt.toArray⟩, .bool tg] 205 (0, 0)) := heap_alloc_new _ _; have kg2 : (w2.alloc (.cells #[.int .u8 114, .string ⟨tt.toArray⟩, .bool tg] 205)).heap[g]? = some (.cells #[.slice ta l.length tc, .int .i64 (A : Int)] 129 (0, 0)) := Tx.blk_later (Tx.blk_later KG1.out hb2) (Tx.newb w2 _); have kR2 : (w2.alloc (.cells #[.int .u8 114, .string ⟨tt.toArray⟩, .bool tg] 205)).heap[w.heap.size]? = some (.cells Qr.zeroQ 29 (0, 0)) := Tx.blk_later (Tx.blk_later KR1.out hb2) (Tx.newb w2 _); have hF2 : Qr.Fr g w (w2.alloc (.cells #[.int .u8 114, .string ⟨tt.toArray⟩, .bool tg] 205)) := (hF1.trans (.of_below hb2)).alloc _; have hP2 : Qr.PS g l r (w2.alloc (.cells #[.int .u8 114, .string ⟨tt.toArray⟩, .bool tg] 205)) := (hP1.below hb2).below (Tx.newb w2 _); have eg : (w2.alloc (.cells #[.int .u8 114, .string ⟨tt.toArray⟩, .bool tg] 205)).cell? ⟨g, 1, none⟩ = some (.int .i64 (A : Int)) := (Tx.blk kg2).1 1; have fg : ∀ i, (w2.alloc (.cells #[.int .u8 114, .string ⟨tt.toArray⟩, .bool tg] 205)).frozen? ⟨g, i, none⟩ = false := (Tx.blk kg2).2.1; have KT2 := Lib.hid kT2; have KG2 := Lib.hid kg2; have KR2 := Lib.hid kR2; clear kT2 kg2 kR2)
   | (go_at_call 251; refine (begins_c g l r _ hP0).mono ?_; rintro e w1 ⟨rfl, hb1⟩; rw [HB.out]; have hP1 := hP0.below hb1; have s1 : w.heap.size < w1.heap.size := (by have := hb1.size; simp at this; omega); have KG1 := Lib.hid (Tx.blk_later (Tx.blk_later KG.out (Tx.newb w _)) hb1); have KR1 : Hid (w1.heap[w.heap.size]? = some (.cells Qr.zeroQ 29 (0, 0))) := Lib.hid (Tx.blk_later (heap_alloc_new w _) hb1); have hF1 : Qr.Fr g w w1 := ((Qr.Fr.refl g w).alloc _).trans (.of_below hb1)))
  refine bodyPost_ret (v := .agg #[.int .i64 qo, .int .i64 qf, .slice qsa qsn qsc, .int .i64 qa, .int .i64 qb, .slice qka qkn qkc]) (by simp [results, Tryz.results287, go_sem, z0, z1, z2, z3, z4, z5]) rfl ⟨⟨qo, qf, qsa, qsn, qsc, qa, qb, qka, qkn, qkc⟩, rfl, (hq4.kp (Qr.Kp.put6 (Qr.Kp.refl _ _) (by simp; omega) _ _ _ _ _ _)).mono (by simp; omega), Qr.PS.of' hP4 KP4.out (Tx.put6 (Below.refl _ _) (by omega) _ _ _ _ _ _) (List.suffix_refl _) (Qr.far6 KP4.out (show g ≠ w.heap.size by omega) _ _ _ _ _ _) rfl, Qr.Fr.put6 hF4' (Nat.le_refl _) _ _ _ _ _ _⟩
set_option maxHeartbeats 1600000 in
theorem prim_unglued (g : Nat) (l r : List Qr.Tok) (w : World) (hP : Qr.PS g l r w) (kk : UInt8) (tt : List UInt8) (tg : Bool) (K : Int) (ht : Qr.lk r = ⟨kk, tt, tg⟩) (hK : (kk.toNat : Int) = K) (hb : Qr.begins r = true) (nk : UInt8) (nt : List UInt8) (ng : Bool) (N : Int) (hn : Qr.lk1 r = ⟨nk, nt, ng⟩) (hN : (nk.toNat : Int) = N) (hK4 : K = 114) (hN5 : N = 58) (hg1 : ng = true) (k2 : UInt8) (t2 : List UInt8) (g2 : Bool) (K2 : Int) (ht2 : Qr.lk r.tail.tail = ⟨k2, t2, g2⟩) (hK2 : (k2.toNat : Int) = K2) (hg2 : g2 = false) :
  Calls Tryz.prog 287 #[.pointer (some ⟨g, 0, none⟩)] w fun e w' => e = .panicked [{ v := Qr.wrongP, recovered := false }] ∧ Qr.Fr g w w' := by
 have hsl := hP.suf.length_le
 have hll := hP.len
 have hgl := hP.lt
 obtain ⟨ta, tc, kg, _, _⟩ := hP.blk
 obtain ⟨A, hA⟩ : ∃ A, l.length - r.length = A := ⟨_, rfl⟩
 rw [hA] at kg
 have hP0 := hP.below (Tx.newb w (.cells Qr.zeroQ 29))
 have KG := Lib.hid kg; clear kg
 have HPP := Lib.hid hP; clear hP
 have hk1 := Qr.begins_ne hb
 have hte := Qr.tail_eats hk1
 have L0 := fun w h => look0 (K := K) (w := w) (g := g) (l := l) ht hK h
 have HB := Lib.hid hb; clear hb
 have HTE := Lib.hid hte; clear hk1
 have hA1 : (A : Int) + 1 = ((l.length - r.tail.length : Nat) : Int) := by have := hte.2; rw [List.length_tail] at this ⊢; omega
 have hw1 := IntWalk.i64_in ((A : Int) + 1) ⟨by omega, by omega⟩
 have HA1 := Lib.hid hA1; clear hA1 hte ht hK
 subst hK4; subst hN5; subst hg1
 have hk2 : (Qr.lk r.tail).k ≠ 0 := by rw [show Qr.lk r.tail = ⟨nk, nt, true⟩ from hn]; intro h0; have h0' : nk = 0 := h0; rw [h0'] at hN; simp at hN
 have htt := (Qr.tail_eats hk2).1.trans HTE.out.1
 have hA2 : (A : Int) + 2 = ((l.length - r.tail.tail.length : Nat) : Int) := by
  have h1 := HA1.out
  have h2 := (Qr.tail_eats hk2).2
  have h3 := HTE.out.1.length_le
  rw [List.length_tail (l := r.tail)] at h2 ⊢
  omega
 have hw2 := IntWalk.i64_in ((A : Int) + 2) ⟨by omega, by omega⟩
 have HA2 := Lib.hid hA2
 have HTT : Hid (r.tail.tail <:+ r ∧ True) := Lib.hid ⟨htt, trivial⟩
 have L1 := fun w h => look1 (K := 58) (w := w) (g := g) (l := l) hn hN h
 have L2 := fun w h => look0 (r := r.tail.tail) (K := K2) (w := w) (g := g) (l := l) ht2 hK2 h
 clear hN hn ht2 hK2 hA2 htt hk2
 subst hg2
 go_enter Tryz.func287, Tryz.ntmps287
 go_wp2_with (first
  | (go_at_call 252; refine (L2 _ hP4).mono ?_; rintro e w5 ⟨rfl, hb5⟩; have s5 := hb5.size; have KT5 := Lib.hid (Tx.blk_later KT4.out hb5); have KR5 := Lib.hid (Tx.blk_later KR4.out hb5); have hF5 := hF4.trans (.of_below hb5); have hP5 := hP4.below hb5; clear eg fg eg3 fg3 e30)
  | (go_at_call 252; refine (L1 _ hP2).mono ?_; rintro e w3 ⟨rfl, hb3⟩; have s3 := hb3.size; simp only [World.size_alloc] at s3; have kT3 : (w3.alloc (.cells #[.int .u8 58, .string ⟨nt.toArray⟩, .bool true] 205)).heap[w2.heap.size]? = some (.cells #[.int .u8 114, .string ⟨tt.toArray⟩, .bool tg] 205 (0, 0)) := Tx.blk_later (Tx.blk_later KT2.out hb3) (Tx.newb w3 _); have kg3 : (w3.alloc (.cells #[.int .u8 58, .string ⟨nt.toArray⟩, .bool true] 205)).heap[g]? = some (.cells #[.slice ta l.length tc, .int .i64 (A : Int)] 129 (0, 0)) := Tx.blk_later (Tx.blk_later KG2.out hb3) (Tx.newb w3 _); have kR3 : (w3.alloc (.cells #[.int .u8 58, .string ⟨nt.toArray⟩, .bool true] 205)).heap[w.heap.size]? = some (.cells Qr.zeroQ 29 (0, 0)) := Tx.blk_later (Tx.blk_later KR2.out hb3) (Tx.newb w3 _); have hF3 : Qr.Fr g w (w3.alloc (.cells #[.int .u8 58, .string ⟨nt.toArray⟩, .bool true] 205)) := (hF2.trans (.of_below hb3)).alloc _; have hP3 : Qr.PS g l r (w3.alloc (.cells #[.int .u8 58, .string ⟨nt.toArray⟩, .bool true] 205)) := (hP2.below hb3).below (Tx.newb w3 _); have e30 : (w3.alloc (.cells #[.int .u8 58, .string ⟨nt.toArray⟩, .bool true] 205)).cell? ⟨w2.heap.size, 0, none⟩ = some (.int .u8 114) := (Tx.blk kT3).1 0; have eg3 : (w3.alloc (.cells #[.int .u8 58, .string ⟨nt.toArray⟩, .bool true] 205)).cell? ⟨g, 1, none⟩ = some (.int .i64 (A : Int)) := (Tx.blk kg3).1 1; have fg3 : ∀ i, (w3.alloc (.cells #[.int .u8 58, .string ⟨nt.toArray⟩, .bool true] 205)).frozen? ⟨g, i, none⟩ = false := (Tx.blk kg3).2.1; have KT3 := Lib.hid kT3; have KG3 := Lib.hid kg3; have KR3 := Lib.hid kR3; clear kT3 kg3 kR3; have kg4 : ((w3.alloc (.cells #[.int .u8 58, .string ⟨nt.toArray⟩, .bool true] 205)).setCell ⟨g, 1, none⟩ (.int .i64 ((A : Int) + 2))).heap[g]? = some (.cells #[.slice ta l.length tc, .int .i64 ((A : Int) + 2)] 129 (0, 0)) := Qr.blk_set1 KG3.out _; have hF4 : Qr.Fr g w ((w3.alloc (.cells #[.int .u8 58, .string ⟨nt.toArray⟩, .bool true] 205)).setCell ⟨g, 1, none⟩ (.int .i64 ((A : Int) + 2))) := hF3.set rfl _; have hP4 : Qr.PS g l r.tail.tail ((w3.alloc (.cells #[.int .u8 58, .string ⟨nt.toArray⟩, .bool true] 205)).setCell ⟨g, 1, none⟩ (.int .i64 ((A : Int) + 2))) := Qr.PS.of HPP.out KG.out hF4 HTT.out.1 kg4 HA2.out; have kR4 := Tx.blk_far (a := ⟨g, 1, none⟩) KR3.out (show w.heap.size ≠ g by omega) (.int .i64 ((A : Int) + 2)); have kT4 := Tx.blk_far (a := ⟨g, 1, none⟩) KT3.out (show w2.heap.size ≠ g by omega) (.int .i64 ((A : Int) + 2)); have s4 : ((w3.alloc (.cells #[.int .u8 58, .string ⟨nt.toArray⟩, .bool true] 205)).setCell ⟨g, 1, none⟩ (.int .i64 ((A : Int) + 2))).heap.size = w3.heap.size + 1 := (by simp [World.setCell]); have KR4 := Lib.hid kR4; have KT4 := Lib.hid kT4; clear kg4 kR4 kT4)
  | (go_at_call 252; refine (L0 _ hP1).mono ?_; rintro e w2 ⟨rfl, hb2⟩; have s2 := hb2.size; have kT2 : (w2.alloc (.cells #[.int .u8 114, .string ⟨tt.toArray⟩, .bool tg] 205)).heap[w2.heap.size]? = some (.cells #[.int .u8 114, .string ⟨tt.toArray⟩, .bool tg] 205 (0, 0)) := heap_alloc_new _ _; have kg2 : (w2.alloc (.cells #[.int .u8 114, .string ⟨tt.toArray⟩, .bool tg] 205)).heap[g]? = some (.cells #[.slice ta l.length tc, .int .i64 (A : Int)] 129 (0, 0)) := Tx.blk_later (Tx.blk_later KG1.out hb2) (Tx.newb w2 _); have kR2 : (w2.alloc (.cells #[.int .u8 114, .string ⟨tt.toArray⟩, .bool tg] 205)).heap[w.heap.size]? = some (.cells Qr.zeroQ 29 (0, 0)) := Tx.blk_later (Tx.blk_later KR1.out hb2) (Tx.newb w2 _); have hF2 : Qr.Fr g w (w2.alloc (.cells #[.int .u8 114, .string ⟨tt.toArray⟩, .bool tg] 205)) := (hF1.trans (.of_below hb2)).alloc _; have hP2 : Qr.PS g l r (w2.alloc (.cells #[.int .u8 114, .string ⟨tt.toArray⟩, .bool tg] 205)) := (hP1.below hb2).below (Tx.newb w2 _); have eg : (w2.alloc (.cells #[.int .u8 114, .string ⟨tt.toArray⟩, .bool tg] 205)).cell? ⟨g, 1, none⟩ = some (.int .i64 (A : Int)) := (Tx.blk kg2).1 1; have fg : ∀ i, (w2.alloc (.cells #[.int .u8 114, .string ⟨tt.toArray⟩, .bool tg] 205)).frozen? ⟨g, i, none⟩ = false := (Tx.blk kg2).2.1; have KT2 := Lib.hid kT2; have KG2 := Lib.hid kg2; have KR2 := Lib.hid kR2; clear kT2 kg2 kR2)
  | (go_at_call 251; refine (begins_c g l r _ hP0).mono ?_; rintro e w1 ⟨rfl, hb1⟩; rw [HB.out]; have hP1 := hP0.below hb1; have s1 : w.heap.size < w1.heap.size := (by have := hb1.size; simp at this; omega); have KG1 := Lib.hid (Tx.blk_later (Tx.blk_later KG.out (Tx.newb w _)) hb1); have KR1 : Hid (w1.heap[w.heap.size]? = some (.cells Qr.zeroQ 29 (0, 0))) := Lib.hid (Tx.blk_later (heap_alloc_new w _) hb1); have hF1 : Qr.Fr g w w1 := ((Qr.Fr.refl g w).alloc _).trans (.of_below hb1)))
 exact ⟨rfl, rfl, hF5⟩
set_option maxHeartbeats 1600000 in
theorem prim_nobeg (g : Nat) (l r : List Qr.Tok) (w : World) (hP : Qr.PS g l r w) (kk : UInt8) (tt : List UInt8) (tg : Bool) (K : Int) (ht : Qr.lk r = ⟨kk, tt, tg⟩) (hK : (kk.toNat : Int) = K) (hb : Qr.begins r = true) (nk : UInt8) (nt : List UInt8) (ng : Bool) (N : Int) (hn : Qr.lk1 r = ⟨nk, nt, ng⟩) (hN : (nk.toNat : Int) = N) (hK4 : K = 114) (hN5 : N = 58) (hg1 : ng = true) (k2 : UInt8) (t2 : List UInt8) (g2 : Bool) (K2 : Int) (ht2 : Qr.lk r.tail.tail = ⟨k2, t2, g2⟩) (hK2 : (k2.toNat : Int) = K2) (hg2 : g2 = true) (hb2 : Qr.begins r.tail.tail = false) :
  Calls Tryz.prog 287 #[.pointer (some ⟨g, 0, none⟩)] w fun e w' => e = .panicked [{ v := Qr.wrongP, recovered := false }] ∧ Qr.Fr g w w' := by
 have hsl := hP.suf.length_le
 have hll := hP.len
 have hgl := hP.lt
 obtain ⟨ta, tc, kg, _, _⟩ := hP.blk
 obtain ⟨A, hA⟩ : ∃ A, l.length - r.length = A := ⟨_, rfl⟩
 rw [hA] at kg
 have hP0 := hP.below (Tx.newb w (.cells Qr.zeroQ 29))
 have KG := Lib.hid kg; clear kg
 have HPP := Lib.hid hP; clear hP
 have hk1 := Qr.begins_ne hb
 have hte := Qr.tail_eats hk1
 have L0 := fun w h => look0 (K := K) (w := w) (g := g) (l := l) ht hK h
 have HB := Lib.hid hb; clear hb
 have HTE := Lib.hid hte; clear hk1
 have hA1 : (A : Int) + 1 = ((l.length - r.tail.length : Nat) : Int) := by have := hte.2; rw [List.length_tail] at this ⊢; omega
 have hw1 := IntWalk.i64_in ((A : Int) + 1) ⟨by omega, by omega⟩
 have HA1 := Lib.hid hA1; clear hA1 hte ht hK
 subst hK4; subst hN5; subst hg1
 have hk2 : (Qr.lk r.tail).k ≠ 0 := by rw [show Qr.lk r.tail = ⟨nk, nt, true⟩ from hn]; intro h0; have h0' : nk = 0 := h0; rw [h0'] at hN; simp at hN
 have htt := (Qr.tail_eats hk2).1.trans HTE.out.1
 have hA2 : (A : Int) + 2 = ((l.length - r.tail.tail.length : Nat) : Int) := by
  have h1 := HA1.out
  have h2 := (Qr.tail_eats hk2).2
  have h3 := HTE.out.1.length_le
  rw [List.length_tail (l := r.tail)] at h2 ⊢
  omega
 have hw2 := IntWalk.i64_in ((A : Int) + 2) ⟨by omega, by omega⟩
 have HA2 := Lib.hid hA2
 have HTT : Hid (r.tail.tail <:+ r ∧ True) := Lib.hid ⟨htt, trivial⟩
 have L1 := fun w h => look1 (K := 58) (w := w) (g := g) (l := l) hn hN h
 have L2 := fun w h => look0 (r := r.tail.tail) (K := K2) (w := w) (g := g) (l := l) ht2 hK2 h
 clear hN hn ht2 hK2 hA2 htt hk2
 subst hg2
 have HB2 := Lib.hid hb2; clear hb2
 go_enter Tryz.func287, Tryz.ntmps287
 go_wp2_with (first
  | (go_at_call 251; refine (begins_c g l _ _ hP5).mono ?_; rintro e w6 ⟨rfl, hb6⟩; have s6 := hb6.size; have KT6 := Lib.hid (Tx.blk_later KT5.out hb6); have KR6 := Lib.hid (Tx.blk_later KR5.out hb6); have hF6 := hF5.trans (.of_below hb6); have hP6 := hP5.below hb6; rw [HB2.out])
  | (go_at_call 252; refine (L2 _ hP4).mono ?_; rintro e w5 ⟨rfl, hb5⟩; have s5 := hb5.size; have KT5 := Lib.hid (Tx.blk_later KT4.out hb5); have KR5 := Lib.hid (Tx.blk_later KR4.out hb5); have hF5 := hF4.trans (.of_below hb5); have hP5 := hP4.below hb5; clear eg fg eg3 fg3 e30)
  | (go_at_call 252; refine (L1 _ hP2).mono ?_; rintro e w3 ⟨rfl, hb3⟩; have s3 := hb3.size; simp only [World.size_alloc] at s3; have kT3 : (w3.alloc (.cells #[.int .u8 58, .string ⟨nt.toArray⟩, .bool true] 205)).heap[w2.heap.size]? = some (.cells #[.int .u8 114, .string ⟨tt.toArray⟩, .bool tg] 205 (0, 0)) := Tx.blk_later (Tx.blk_later KT2.out hb3) (Tx.newb w3 _); have kg3 : (w3.alloc (.cells #[.int .u8 58, .string ⟨nt.toArray⟩, .bool true] 205)).heap[g]? = some (.cells #[.slice ta l.length tc, .int .i64 (A : Int)] 129 (0, 0)) := Tx.blk_later (Tx.blk_later KG2.out hb3) (Tx.newb w3 _); have kR3 : (w3.alloc (.cells #[.int .u8 58, .string ⟨nt.toArray⟩, .bool true] 205)).heap[w.heap.size]? = some (.cells Qr.zeroQ 29 (0, 0)) := Tx.blk_later (Tx.blk_later KR2.out hb3) (Tx.newb w3 _); have hF3 : Qr.Fr g w (w3.alloc (.cells #[.int .u8 58, .string ⟨nt.toArray⟩, .bool true] 205)) := (hF2.trans (.of_below hb3)).alloc _; have hP3 : Qr.PS g l r (w3.alloc (.cells #[.int .u8 58, .string ⟨nt.toArray⟩, .bool true] 205)) := (hP2.below hb3).below (Tx.newb w3 _); have e30 : (w3.alloc (.cells #[.int .u8 58, .string ⟨nt.toArray⟩, .bool true] 205)).cell? ⟨w2.heap.size, 0, none⟩ = some (.int .u8 114) := (Tx.blk kT3).1 0; have eg3 : (w3.alloc (.cells #[.int .u8 58, .string ⟨nt.toArray⟩, .bool true] 205)).cell? ⟨g, 1, none⟩ = some (.int .i64 (A : Int)) := (Tx.blk kg3).1 1; have fg3 : ∀ i, (w3.alloc (.cells #[.int .u8 58, .string ⟨nt.toArray⟩, .bool true] 205)).frozen? ⟨g, i, none⟩ = false := (Tx.blk kg3).2.1; have KT3 := Lib.hid kT3; have KG3 := Lib.hid kg3; have KR3 := Lib.hid kR3; clear kT3 kg3 kR3; have kg4 : ((w3.alloc (.cells #[.int .u8 58, .string ⟨nt.toArray⟩, .bool true] 205)).setCell ⟨g, 1, none⟩ (.int .i64 ((A : Int) + 2))).heap[g]? = some (.cells #[.slice ta l.length tc, .int .i64 ((A : Int) + 2)] 129 (0, 0)) := Qr.blk_set1 KG3.out _; have hF4 : Qr.Fr g w ((w3.alloc (.cells #[.int .u8 58, .string ⟨nt.toArray⟩, .bool true] 205)).setCell ⟨g, 1, none⟩ (.int .i64 ((A : Int) + 2))) := hF3.set rfl _; have hP4 : Qr.PS g l r.tail.tail ((w3.alloc (.cells #[.int .u8 58, .string ⟨nt.toArray⟩, .bool true] 205)).setCell ⟨g, 1, none⟩ (.int .i64 ((A : Int) + 2))) := Qr.PS.of HPP.out KG.out hF4 HTT.out.1 kg4 HA2.out; have kR4 := Tx.blk_far (a := ⟨g, 1, none⟩) KR3.out (show w.heap.size ≠ g by omega) (.int .i64 ((A : Int) + 2)); have kT4 := Tx.blk_far (a := ⟨g, 1, none⟩) KT3.out (show w2.heap.size ≠ g by omega) (.int .i64 ((A : Int) + 2)); have s4 : ((w3.alloc (.cells #[.int .u8 58, .string ⟨nt.toArray⟩, .bool true] 205)).setCell ⟨g, 1, none⟩ (.int .i64 ((A : Int) + 2))).heap.size = w3.heap.size + 1 := (by simp [World.setCell]); have KR4 := Lib.hid kR4; have KT4 := Lib.hid kT4; clear kg4 kR4 kT4)
  | (go_at_call 252; refine (L0 _ hP1).mono ?_; rintro e w2 ⟨rfl, hb2⟩; have s2 := hb2.size; have kT2 : (w2.alloc (.cells #[.int .u8 114, .string ⟨tt.toArray⟩, .bool tg] 205)).heap[w2.heap.size]? = some (.cells #[.int .u8 114, .string ⟨tt.toArray⟩, .bool tg] 205 (0, 0)) := heap_alloc_new _ _; have kg2 : (w2.alloc (.cells #[.int .u8 114, .string ⟨tt.toArray⟩, .bool tg] 205)).heap[g]? = some (.cells #[.slice ta l.length tc, .int .i64 (A : Int)] 129 (0, 0)) := Tx.blk_later (Tx.blk_later KG1.out hb2) (Tx.newb w2 _); have kR2 : (w2.alloc (.cells #[.int .u8 114, .string ⟨tt.toArray⟩, .bool tg] 205)).heap[w.heap.size]? = some (.cells Qr.zeroQ 29 (0, 0)) := Tx.blk_later (Tx.blk_later KR1.out hb2) (Tx.newb w2 _); have hF2 : Qr.Fr g w (w2.alloc (.cells #[.int .u8 114, .string ⟨tt.toArray⟩, .bool tg] 205)) := (hF1.trans (.of_below hb2)).alloc _; have hP2 : Qr.PS g l r (w2.alloc (.cells #[.int .u8 114, .string ⟨tt.toArray⟩, .bool tg] 205)) := (hP1.below hb2).below (Tx.newb w2 _); have eg : (w2.alloc (.cells #[.int .u8 114, .string ⟨tt.toArray⟩, .bool tg] 205)).cell? ⟨g, 1, none⟩ = some (.int .i64 (A : Int)) := (Tx.blk kg2).1 1; have fg : ∀ i, (w2.alloc (.cells #[.int .u8 114, .string ⟨tt.toArray⟩, .bool tg] 205)).frozen? ⟨g, i, none⟩ = false := (Tx.blk kg2).2.1; have KT2 := Lib.hid kT2; have KG2 := Lib.hid kg2; have KR2 := Lib.hid kR2; clear kT2 kg2 kR2)
  | (go_at_call 251; refine (begins_c g l r _ hP0).mono ?_; rintro e w1 ⟨rfl, hb1⟩; rw [HB.out]; have hP1 := hP0.below hb1; have s1 : w.heap.size < w1.heap.size := (by have := hb1.size; simp at this; omega); have KG1 := Lib.hid (Tx.blk_later (Tx.blk_later KG.out (Tx.newb w _)) hb1); have KR1 : Hid (w1.heap[w.heap.size]? = some (.cells Qr.zeroQ 29 (0, 0))) := Lib.hid (Tx.blk_later (heap_alloc_new w _) hb1); have hF1 : Qr.Fr g w w1 := ((Qr.Fr.refl g w).alloc _).trans (.of_below hb1)))
 exact ⟨rfl, rfl, hF6⟩
set_option maxHeartbeats 1600000 in
theorem prim_par2 (g : Nat) (l r : List Qr.Tok) (w : World) (hP : Qr.PS g l r w) (kk : UInt8) (tt : List UInt8) (tg : Bool) (K : Int) (ht : Qr.lk r = ⟨kk, tt, tg⟩) (hK : (kk.toNat : Int) = K) (hb : Qr.begins r = true) (nk : UInt8) (nt : List UInt8) (ng : Bool) (N : Int) (hn : Qr.lk1 r = ⟨nk, nt, ng⟩) (hN : (nk.toNat : Int) = N) (hK4 : K = 114) (hN5 : N = 58) (hg1 : ng = true) (k2 : UInt8) (t2 : List UInt8) (g2 : Bool) (K2 : Int) (ht2 : Qr.lk r.tail.tail = ⟨k2, t2, g2⟩) (hK2 : (k2.toNat : Int) = K2) (hg2 : g2 = true) (hb2 : Qr.begins r.tail.tail = true) (h40 : K2 = 40) :
  Calls Tryz.prog 287 #[.pointer (some ⟨g, 0, none⟩)] w fun e w' => e = .panicked [{ v := Qr.wrongP, recovered := false }] ∧ Qr.Fr g w w' := by
 have hsl := hP.suf.length_le
 have hll := hP.len
 have hgl := hP.lt
 obtain ⟨ta, tc, kg, _, _⟩ := hP.blk
 obtain ⟨A, hA⟩ : ∃ A, l.length - r.length = A := ⟨_, rfl⟩
 rw [hA] at kg
 have hP0 := hP.below (Tx.newb w (.cells Qr.zeroQ 29))
 have KG := Lib.hid kg; clear kg
 have HPP := Lib.hid hP; clear hP
 have hk1 := Qr.begins_ne hb
 have hte := Qr.tail_eats hk1
 have L0 := fun w h => look0 (K := K) (w := w) (g := g) (l := l) ht hK h
 have HB := Lib.hid hb; clear hb
 have HTE := Lib.hid hte; clear hk1
 have hA1 : (A : Int) + 1 = ((l.length - r.tail.length : Nat) : Int) := by have := hte.2; rw [List.length_tail] at this ⊢; omega
 have hw1 := IntWalk.i64_in ((A : Int) + 1) ⟨by omega, by omega⟩
 have HA1 := Lib.hid hA1; clear hA1 hte ht hK
 subst hK4; subst hN5; subst hg1
 have hk2 : (Qr.lk r.tail).k ≠ 0 := by rw [show Qr.lk r.tail = ⟨nk, nt, true⟩ from hn]; intro h0; have h0' : nk = 0 := h0; rw [h0'] at hN; simp at hN
 have htt := (Qr.tail_eats hk2).1.trans HTE.out.1
 have hA2 : (A : Int) + 2 = ((l.length - r.tail.tail.length : Nat) : Int) := by
  have h1 := HA1.out
  have h2 := (Qr.tail_eats hk2).2
  have h3 := HTE.out.1.length_le
  rw [List.length_tail (l := r.tail)] at h2 ⊢
  omega
 have hw2 := IntWalk.i64_in ((A : Int) + 2) ⟨by omega, by omega⟩
 have HA2 := Lib.hid hA2
 have HTT : Hid (r.tail.tail <:+ r ∧ True) := Lib.hid ⟨htt, trivial⟩
 have L1 := fun w h => look1 (K := 58) (w := w) (g := g) (l := l) hn hN h
 have L2 := fun w h => look0 (r := r.tail.tail) (K := K2) (w := w) (g := g) (l := l) ht2 hK2 h
 clear hN hn ht2 hK2 hA2 htt hk2
 subst hg2; subst h40
 have HB2 := Lib.hid hb2; clear hb2
 go_enter Tryz.func287, Tryz.ntmps287
 go_wp2_with (first
  | (go_at_call 252; refine (L2 _ hP6).mono ?_; rintro e w7 ⟨rfl, hb7⟩; have s7 := hb7.size; have KT7 := Lib.hid (Tx.blk_later KT6.out hb7); have KR7 := Lib.hid (Tx.blk_later KR6.out hb7); have hF7 := hF6.trans (.of_below hb7); have hP7 := hP6.below hb7; have e71 : w7.cell? ⟨w2.heap.size, 1, none⟩ = some (.string ⟨tt.toArray⟩) := (Tx.blk KT7.out).1 1)
  | (go_at_call 251; refine (begins_c g l _ _ hP5).mono ?_; rintro e w6 ⟨rfl, hb6⟩; have s6 := hb6.size; have KT6 := Lib.hid (Tx.blk_later KT5.out hb6); have KR6 := Lib.hid (Tx.blk_later KR5.out hb6); have hF6 := hF5.trans (.of_below hb6); have hP6 := hP5.below hb6; rw [HB2.out])
  | (go_at_call 252; refine (L2 _ hP4).mono ?_; rintro e w5 ⟨rfl, hb5⟩; have s5 := hb5.size; have KT5 := Lib.hid (Tx.blk_later KT4.out hb5); have KR5 := Lib.hid (Tx.blk_later KR4.out hb5); have hF5 := hF4.trans (.of_below hb5); have hP5 := hP4.below hb5; clear eg fg eg3 fg3 e30)
  | (go_at_call 252; refine (L1 _ hP2).mono ?_; rintro e w3 ⟨rfl, hb3⟩; have s3 := hb3.size; simp only [World.size_alloc] at s3; have kT3 : (w3.alloc (.cells #[.int .u8 58, .string ⟨nt.toArray⟩, .bool true] 205)).heap[w2.heap.size]? = some (.cells #[.int .u8 114, .string ⟨tt.toArray⟩, .bool tg] 205 (0, 0)) := Tx.blk_later (Tx.blk_later KT2.out hb3) (Tx.newb w3 _); have kg3 : (w3.alloc (.cells #[.int .u8 58, .string ⟨nt.toArray⟩, .bool true] 205)).heap[g]? = some (.cells #[.slice ta l.length tc, .int .i64 (A : Int)] 129 (0, 0)) := Tx.blk_later (Tx.blk_later KG2.out hb3) (Tx.newb w3 _); have kR3 : (w3.alloc (.cells #[.int .u8 58, .string ⟨nt.toArray⟩, .bool true] 205)).heap[w.heap.size]? = some (.cells Qr.zeroQ 29 (0, 0)) := Tx.blk_later (Tx.blk_later KR2.out hb3) (Tx.newb w3 _); have hF3 : Qr.Fr g w (w3.alloc (.cells #[.int .u8 58, .string ⟨nt.toArray⟩, .bool true] 205)) := (hF2.trans (.of_below hb3)).alloc _; have hP3 : Qr.PS g l r (w3.alloc (.cells #[.int .u8 58, .string ⟨nt.toArray⟩, .bool true] 205)) := (hP2.below hb3).below (Tx.newb w3 _); have e30 : (w3.alloc (.cells #[.int .u8 58, .string ⟨nt.toArray⟩, .bool true] 205)).cell? ⟨w2.heap.size, 0, none⟩ = some (.int .u8 114) := (Tx.blk kT3).1 0; have eg3 : (w3.alloc (.cells #[.int .u8 58, .string ⟨nt.toArray⟩, .bool true] 205)).cell? ⟨g, 1, none⟩ = some (.int .i64 (A : Int)) := (Tx.blk kg3).1 1; have fg3 : ∀ i, (w3.alloc (.cells #[.int .u8 58, .string ⟨nt.toArray⟩, .bool true] 205)).frozen? ⟨g, i, none⟩ = false := (Tx.blk kg3).2.1; have KT3 := Lib.hid kT3; have KG3 := Lib.hid kg3; have KR3 := Lib.hid kR3; clear kT3 kg3 kR3; have kg4 : ((w3.alloc (.cells #[.int .u8 58, .string ⟨nt.toArray⟩, .bool true] 205)).setCell ⟨g, 1, none⟩ (.int .i64 ((A : Int) + 2))).heap[g]? = some (.cells #[.slice ta l.length tc, .int .i64 ((A : Int) + 2)] 129 (0, 0)) := Qr.blk_set1 KG3.out _; have hF4 : Qr.Fr g w ((w3.alloc (.cells #[.int .u8 58, .string ⟨nt.toArray⟩, .bool true] 205)).setCell ⟨g, 1, none⟩ (.int .i64 ((A : Int) + 2))) := hF3.set rfl _; have hP4 : Qr.PS g l r.tail.tail ((w3.alloc (.cells #[.int .u8 58, .string ⟨nt.toArray⟩, .bool true] 205)).setCell ⟨g, 1, none⟩ (.int .i64 ((A : Int) + 2))) := Qr.PS.of HPP.out KG.out hF4 HTT.out.1 kg4 HA2.out; have kR4 := Tx.blk_far (a := ⟨g, 1, none⟩) KR3.out (show w.heap.size ≠ g by omega) (.int .i64 ((A : Int) + 2)); have kT4 := Tx.blk_far (a := ⟨g, 1, none⟩) KT3.out (show w2.heap.size ≠ g by omega) (.int .i64 ((A : Int) + 2)); have s4 : ((w3.alloc (.cells #[.int .u8 58, .string ⟨nt.toArray⟩, .bool true] 205)).setCell ⟨g, 1, none⟩ (.int .i64 ((A : Int) + 2))).heap.size = w3.heap.size + 1 := (by simp [World.setCell]); have KR4 := Lib.hid kR4; have KT4 := Lib.hid kT4; clear kg4 kR4 kT4)
  | (go_at_call 252; refine (L0 _ hP1).mono ?_; rintro e w2 ⟨rfl, hb2⟩; have s2 := hb2.size; have kT2 : (w2.alloc (.cells #[.int .u8 114, .string ⟨tt.toArray⟩, .bool tg] 205)).heap[w2.heap.size]? = some (.cells #[.int .u8 114, .string ⟨tt.toArray⟩, .bool tg] 205 (0, 0)) := heap_alloc_new _ _; have kg2 : (w2.alloc (.cells #[.int .u8 114, .string ⟨tt.toArray⟩, .bool tg] 205)).heap[g]? = some (.cells #[.slice ta l.length tc, .int .i64 (A : Int)] 129 (0, 0)) := Tx.blk_later (Tx.blk_later KG1.out hb2) (Tx.newb w2 _); have kR2 : (w2.alloc (.cells #[.int .u8 114, .string ⟨tt.toArray⟩, .bool tg] 205)).heap[w.heap.size]? = some (.cells Qr.zeroQ 29 (0, 0)) := Tx.blk_later (Tx.blk_later KR1.out hb2) (Tx.newb w2 _); have hF2 : Qr.Fr g w (w2.alloc (.cells #[.int .u8 114, .string ⟨tt.toArray⟩, .bool tg] 205)) := (hF1.trans (.of_below hb2)).alloc _; have hP2 : Qr.PS g l r (w2.alloc (.cells #[.int .u8 114, .string ⟨tt.toArray⟩, .bool tg] 205)) := (hP1.below hb2).below (Tx.newb w2 _); have eg : (w2.alloc (.cells #[.int .u8 114, .string ⟨tt.toArray⟩, .bool tg] 205)).cell? ⟨g, 1, none⟩ = some (.int .i64 (A : Int)) := (Tx.blk kg2).1 1; have fg : ∀ i, (w2.alloc (.cells #[.int .u8 114, .string ⟨tt.toArray⟩, .bool tg] 205)).frozen? ⟨g, i, none⟩ = false := (Tx.blk kg2).2.1; have KT2 := Lib.hid kT2; have KG2 := Lib.hid kg2; have KR2 := Lib.hid kR2; clear kT2 kg2 kR2)
  | (go_at_call 251; refine (begins_c g l r _ hP0).mono ?_; rintro e w1 ⟨rfl, hb1⟩; rw [HB.out]; have hP1 := hP0.below hb1; have s1 : w.heap.size < w1.heap.size := (by have := hb1.size; simp at this; omega); have KG1 := Lib.hid (Tx.blk_later (Tx.blk_later KG.out (Tx.newb w _)) hb1); have KR1 : Hid (w1.heap[w.heap.size]? = some (.cells Qr.zeroQ 29 (0, 0))) := Lib.hid (Tx.blk_later (heap_alloc_new w _) hb1); have hF1 : Qr.Fr g w w1 := ((Qr.Fr.refl g w).alloc _).trans (.of_below hb1)))
 exact ⟨rfl, rfl, hF7⟩
set_option maxHeartbeats 1600000 in
theorem prim_year_none (g : Nat) (l r : List Qr.Tok) (w : World) (hP : Qr.PS g l r w) (kk : UInt8) (tt : List UInt8) (tg : Bool) (K : Int) (ht : Qr.lk r = ⟨kk, tt, tg⟩) (hK : (kk.toNat : Int) = K) (hb : Qr.begins r = true) (nk : UInt8) (nt : List UInt8) (ng : Bool) (N : Int) (hn : Qr.lk1 r = ⟨nk, nt, ng⟩) (hN : (nk.toNat : Int) = N) (hK4 : K = 114) (hN5 : N = 58) (hg1 : ng = true) (k2 : UInt8) (t2 : List UInt8) (g2 : Bool) (K2 : Int) (ht2 : Qr.lk r.tail.tail = ⟨k2, t2, g2⟩) (hK2 : (k2.toNat : Int) = K2) (hg2 : g2 = true) (hb2 : Qr.begins r.tail.tail = true) (h40 : ¬ K2 = 40) (hwt : Qr.word0 r.tail.tail = true) (hty : tt = [121, 101, 97, 114]) (hx : Qr.pYears true r.tail.tail = none) :
  Calls Tryz.prog 287 #[.pointer (some ⟨g, 0, none⟩)] w fun e w' => e = .panicked [{ v := Qr.wrongP, recovered := false }] ∧ Qr.Fr g w w' := by
 have hsl := hP.suf.length_le
 have hll := hP.len
 have hgl := hP.lt
 obtain ⟨ta, tc, kg, _, _⟩ := hP.blk
 obtain ⟨A, hA⟩ : ∃ A, l.length - r.length = A := ⟨_, rfl⟩
 rw [hA] at kg
 have hP0 := hP.below (Tx.newb w (.cells Qr.zeroQ 29))
 have KG := Lib.hid kg; clear kg
 have HPP := Lib.hid hP; clear hP
 have hk1 := Qr.begins_ne hb
 have hte := Qr.tail_eats hk1
 have L0 := fun w h => look0 (K := K) (w := w) (g := g) (l := l) ht hK h
 have HB := Lib.hid hb; clear hb
 have HTE := Lib.hid hte; clear hk1
 have hA1 : (A : Int) + 1 = ((l.length - r.tail.length : Nat) : Int) := by have := hte.2; rw [List.length_tail] at this ⊢; omega
 have hw1 := IntWalk.i64_in ((A : Int) + 1) ⟨by omega, by omega⟩
 have HA1 := Lib.hid hA1; clear hA1 hte ht hK
 subst hK4; subst hN5; subst hg1
 have hk2 : (Qr.lk r.tail).k ≠ 0 := by rw [show Qr.lk r.tail = ⟨nk, nt, true⟩ from hn]; intro h0; have h0' : nk = 0 := h0; rw [h0'] at hN; simp at hN
 have htt := (Qr.tail_eats hk2).1.trans HTE.out.1
 have hA2 : (A : Int) + 2 = ((l.length - r.tail.tail.length : Nat) : Int) := by
  have h1 := HA1.out
  have h2 := (Qr.tail_eats hk2).2
  have h3 := HTE.out.1.length_le
  rw [List.length_tail (l := r.tail)] at h2 ⊢
  omega
 have hw2 := IntWalk.i64_in ((A : Int) + 2) ⟨by omega, by omega⟩
 have HA2 := Lib.hid hA2
 have HTT : Hid (r.tail.tail <:+ r ∧ True) := Lib.hid ⟨htt, trivial⟩
 have L1 := fun w h => look1 (K := 58) (w := w) (g := g) (l := l) hn hN h
 have L2 := fun w h => look0 (r := r.tail.tail) (K := K2) (w := w) (g := g) (l := l) ht2 hK2 h
 clear hN hn ht2 hK2 hA2 htt hk2
 subst hg2
 have n40 : (K2 == 40) = false := beq_eq_false_iff_ne.2 h40
 have HB2 := Lib.hid hb2; clear hb2
 have HW2 := Lib.hid hwt; clear hwt
 subst hty
 have HX := Lib.hid hx; clear hx
 go_enter Tryz.func287, Tryz.ntmps287
 go_wp2_with (first
  | (go_at_call 301; refine (years_c g l _ _ hP7 HW2.out).mono ?_; rintro e w8 h8; rw [HX.out] at h8; obtain ⟨rfl, hF8⟩ := h8.bad; have hF8' := hF7.trans hF8)
  | (go_at_call 252; refine (L2 _ hP6).mono ?_; rintro e w7 ⟨rfl, hb7⟩; have s7 := hb7.size; have KT7 := Lib.hid (Tx.blk_later KT6.out hb7); have KR7 := Lib.hid (Tx.blk_later KR6.out hb7); have hF7 := hF6.trans (.of_below hb7); have hP7 := hP6.below hb7; have e71 : w7.cell? ⟨w2.heap.size, 1, none⟩ = some (.string ⟨([121, 101, 97, 114] : List UInt8).toArray⟩) := (Tx.blk KT7.out).1 1)
  | (go_at_call 251; refine (begins_c g l _ _ hP5).mono ?_; rintro e w6 ⟨rfl, hb6⟩; have s6 := hb6.size; have KT6 := Lib.hid (Tx.blk_later KT5.out hb6); have KR6 := Lib.hid (Tx.blk_later KR5.out hb6); have hF6 := hF5.trans (.of_below hb6); have hP6 := hP5.below hb6; rw [HB2.out])
  | (go_at_call 252; refine (L2 _ hP4).mono ?_; rintro e w5 ⟨rfl, hb5⟩; have s5 := hb5.size; have KT5 := Lib.hid (Tx.blk_later KT4.out hb5); have KR5 := Lib.hid (Tx.blk_later KR4.out hb5); have hF5 := hF4.trans (.of_below hb5); have hP5 := hP4.below hb5; clear eg fg eg3 fg3 e30)
  | (go_at_call 252; refine (L1 _ hP2).mono ?_; rintro e w3 ⟨rfl, hb3⟩; have s3 := hb3.size; simp only [World.size_alloc] at s3; have kT3 : (w3.alloc (.cells #[.int .u8 58, .string ⟨nt.toArray⟩, .bool true] 205)).heap[w2.heap.size]? = some (.cells #[.int .u8 114, .string ⟨([121, 101, 97, 114] : List UInt8).toArray⟩, .bool tg] 205 (0, 0)) := Tx.blk_later (Tx.blk_later KT2.out hb3) (Tx.newb w3 _); have kg3 : (w3.alloc (.cells #[.int .u8 58, .string ⟨nt.toArray⟩, .bool true] 205)).heap[g]? = some (.cells #[.slice ta l.length tc, .int .i64 (A : Int)] 129 (0, 0)) := Tx.blk_later (Tx.blk_later KG2.out hb3) (Tx.newb w3 _); have kR3 : (w3.alloc (.cells #[.int .u8 58, .string ⟨nt.toArray⟩, .bool true] 205)).heap[w.heap.size]? = some (.cells Qr.zeroQ 29 (0, 0)) := Tx.blk_later (Tx.blk_later KR2.out hb3) (Tx.newb w3 _); have hF3 : Qr.Fr g w (w3.alloc (.cells #[.int .u8 58, .string ⟨nt.toArray⟩, .bool true] 205)) := (hF2.trans (.of_below hb3)).alloc _; have hP3 : Qr.PS g l r (w3.alloc (.cells #[.int .u8 58, .string ⟨nt.toArray⟩, .bool true] 205)) := (hP2.below hb3).below (Tx.newb w3 _); have e30 : (w3.alloc (.cells #[.int .u8 58, .string ⟨nt.toArray⟩, .bool true] 205)).cell? ⟨w2.heap.size, 0, none⟩ = some (.int .u8 114) := (Tx.blk kT3).1 0; have eg3 : (w3.alloc (.cells #[.int .u8 58, .string ⟨nt.toArray⟩, .bool true] 205)).cell? ⟨g, 1, none⟩ = some (.int .i64 (A : Int)) := (Tx.blk kg3).1 1; have fg3 : ∀ i, (w3.alloc (.cells #[.int .u8 58, .string ⟨nt.toArray⟩, .bool true] 205)).frozen? ⟨g, i, none⟩ = false := (Tx.blk kg3).2.1; have KT3 := Lib.hid kT3; have KG3 := Lib.hid kg3; have KR3 := Lib.hid kR3; clear kT3 kg3 kR3; have kg4 : ((w3.alloc (.cells #[.int .u8 58, .string ⟨nt.toArray⟩, .bool true] 205)).setCell ⟨g, 1, none⟩ (.int .i64 ((A : Int) + 2))).heap[g]? = some (.cells #[.slice ta l.length tc, .int .i64 ((A : Int) + 2)] 129 (0, 0)) := Qr.blk_set1 KG3.out _; have hF4 : Qr.Fr g w ((w3.alloc (.cells #[.int .u8 58, .string ⟨nt.toArray⟩, .bool true] 205)).setCell ⟨g, 1, none⟩ (.int .i64 ((A : Int) + 2))) := hF3.set rfl _; have hP4 : Qr.PS g l r.tail.tail ((w3.alloc (.cells #[.int .u8 58, .string ⟨nt.toArray⟩, .bool true] 205)).setCell ⟨g, 1, none⟩ (.int .i64 ((A : Int) + 2))) := Qr.PS.of HPP.out KG.out hF4 HTT.out.1 kg4 HA2.out; have kR4 := Tx.blk_far (a := ⟨g, 1, none⟩) KR3.out (show w.heap.size ≠ g by omega) (.int .i64 ((A : Int) + 2)); have kT4 := Tx.blk_far (a := ⟨g, 1, none⟩) KT3.out (show w2.heap.size ≠ g by omega) (.int .i64 ((A : Int) + 2)); have s4 : ((w3.alloc (.cells #[.int .u8 58, .string ⟨nt.toArray⟩, .bool true] 205)).setCell ⟨g, 1, none⟩ (.int .i64 ((A : Int) + 2))).heap.size = w3.heap.size + 1 := (by simp [World.setCell]); have KR4 := Lib.hid kR4; have KT4 := Lib.hid kT4; clear kg4 kR4 kT4)
  | (go_at_call 252; refine (L0 _ hP1).mono ?_; rintro e w2 ⟨rfl, hb2⟩; have s2 := hb2.size; have kT2 : (w2.alloc (.cells #[.int .u8 114, .string ⟨([121, 101, 97, 114] : List UInt8).toArray⟩, .bool tg] 205)).heap[w2.heap.size]? = some (.cells #[.int .u8 114, .string ⟨([121, 101, 97, 114] : List UInt8).toArray⟩, .bool tg] 205 (0, 0)) := heap_alloc_new _ _; have kg2 : (w2.alloc (.cells #[.int .u8 114, .string ⟨([121, 101, 97, 114] : List UInt8).toArray⟩, .bool tg] 205)).heap[g]? = some (.cells #[.slice ta l.length tc, .int .i64 (A : Int)] 129 (0, 0)) := Tx.blk_later (Tx.blk_later KG1.out hb2) (Tx.newb w2 _); have kR2 : (w2.alloc (.cells #[.int .u8 114, .string ⟨([121, 101, 97, 114] : List UInt8).toArray⟩, .bool tg] 205)).heap[w.heap.size]? = some (.cells Qr.zeroQ 29 (0, 0)) := Tx.blk_later (Tx.blk_later KR1.out hb2) (Tx.newb w2 _); have hF2 : Qr.Fr g w (w2.alloc (.cells #[.int .u8 114, .string ⟨([121, 101, 97, 114] : List UInt8).toArray⟩, .bool tg] 205)) := (hF1.trans (.of_below hb2)).alloc _; have hP2 : Qr.PS g l r (w2.alloc (.cells #[.int .u8 114, .string ⟨([121, 101, 97, 114] : List UInt8).toArray⟩, .bool tg] 205)) := (hP1.below hb2).below (Tx.newb w2 _); have eg : (w2.alloc (.cells #[.int .u8 114, .string ⟨([121, 101, 97, 114] : List UInt8).toArray⟩, .bool tg] 205)).cell? ⟨g, 1, none⟩ = some (.int .i64 (A : Int)) := (Tx.blk kg2).1 1; have fg : ∀ i, (w2.alloc (.cells #[.int .u8 114, .string ⟨([121, 101, 97, 114] : List UInt8).toArray⟩, .bool tg] 205)).frozen? ⟨g, i, none⟩ = false := (Tx.blk kg2).2.1; have KT2 := Lib.hid kT2; have KG2 := Lib.hid kg2; have KR2 := Lib.hid kR2; clear kT2 kg2 kR2)
  | (go_at_call 251; refine (begins_c g l r _ hP0).mono ?_; rintro e w1 ⟨rfl, hb1⟩; rw [HB.out]; have hP1 := hP0.below hb1; have s1 : w.heap.size < w1.heap.size := (by have := hb1.size; simp at this; omega); have KG1 := Lib.hid (Tx.blk_later (Tx.blk_later KG.out (Tx.newb w _)) hb1); have KR1 : Hid (w1.heap[w.heap.size]? = some (.cells Qr.zeroQ 29 (0, 0))) := Lib.hid (Tx.blk_later (heap_alloc_new w _) hb1); have hF1 : Qr.Fr g w w1 := ((Qr.Fr.refl g w).alloc _).trans (.of_below hb1)))
 exact ⟨rfl, rfl, hF8'⟩
set_option maxHeartbeats 1600000 in
theorem prim_year_ok (g : Nat) (l r : List Qr.Tok) (w : World) (hP : Qr.PS g l r w) (kk : UInt8) (tt : List UInt8) (tg : Bool) (K : Int) (ht : Qr.lk r = ⟨kk, tt, tg⟩) (hK : (kk.toNat : Int) = K) (hb : Qr.begins r = true) (nk : UInt8) (nt : List UInt8) (ng : Bool) (N : Int) (hn : Qr.lk1 r = ⟨nk, nt, ng⟩) (hN : (nk.toNat : Int) = N) (hK4 : K = 114) (hN5 : N = 58) (hg1 : ng = true) (k2 : UInt8) (t2 : List UInt8) (g2 : Bool) (K2 : Int) (ht2 : Qr.lk r.tail.tail = ⟨k2, t2, g2⟩) (hK2 : (k2.toNat : Int) = K2) (hg2 : g2 = true) (hb2 : Qr.begins r.tail.tail = true) (h40 : ¬ K2 = 40) (hwt : Qr.word0 r.tail.tail = true) (hty : tt = [121, 101, 97, 114]) (q : Qr.Qy) (r' : List Qr.Tok) (hx : Qr.pYears true r.tail.tail = some (q, r')) :
  Calls Tryz.prog 287 #[.pointer (some ⟨g, 0, none⟩)] w fun e w' => Qr.Res g l (some (q, r')) w e w' := by
 have hsl := hP.suf.length_le
 have hll := hP.len
 have hgl := hP.lt
 obtain ⟨ta, tc, kg, _, _⟩ := hP.blk
 obtain ⟨A, hA⟩ : ∃ A, l.length - r.length = A := ⟨_, rfl⟩
 rw [hA] at kg
 have hP0 := hP.below (Tx.newb w (.cells Qr.zeroQ 29))
 have KG := Lib.hid kg; clear kg
 have HPP := Lib.hid hP; clear hP
 have hk1 := Qr.begins_ne hb
 have hte := Qr.tail_eats hk1
 have L0 := fun w h => look0 (K := K) (w := w) (g := g) (l := l) ht hK h
 have HB := Lib.hid hb; clear hb
 have HTE := Lib.hid hte; clear hk1
 have hA1 : (A : Int) + 1 = ((l.length - r.tail.length : Nat) : Int) := by have := hte.2; rw [List.length_tail] at this ⊢; omega
 have hw1 := IntWalk.i64_in ((A : Int) + 1) ⟨by omega, by omega⟩
 have HA1 := Lib.hid hA1; clear hA1 hte ht hK
 subst hK4; subst hN5; subst hg1
 have hk2 : (Qr.lk r.tail).k ≠ 0 := by rw [show Qr.lk r.tail = ⟨nk, nt, true⟩ from hn]; intro h0; have h0' : nk = 0 := h0; rw [h0'] at hN; simp at hN
 have htt := (Qr.tail_eats hk2).1.trans HTE.out.1
 have hA2 : (A : Int) + 2 = ((l.length - r.tail.tail.length : Nat) : Int) := by
  have h1 := HA1.out
  have h2 := (Qr.tail_eats hk2).2
  have h3 := HTE.out.1.length_le
  rw [List.length_tail (l := r.tail)] at h2 ⊢
  omega
 have hw2 := IntWalk.i64_in ((A : Int) + 2) ⟨by omega, by omega⟩
 have HA2 := Lib.hid hA2
 have HTT : Hid (r.tail.tail <:+ r ∧ True) := Lib.hid ⟨htt, trivial⟩
 have L1 := fun w h => look1 (K := 58) (w := w) (g := g) (l := l) hn hN h
 have L2 := fun w h => look0 (r := r.tail.tail) (K := K2) (w := w) (g := g) (l := l) ht2 hK2 h
 clear hN hn ht2 hK2 hA2 htt hk2
 subst hg2
 have n40 : (K2 == 40) = false := beq_eq_false_iff_ne.2 h40
 have HB2 := Lib.hid hb2; clear hb2
 have HW2 := Lib.hid hwt; clear hwt
 subst hty
 have HX := Lib.hid hx; clear hx
 go_enter Tryz.func287, Tryz.ntmps287
 go_wp2_with (first
  | (go_at_call 301; refine (years_c g l _ _ hP7 HW2.out).mono ?_; rintro e w4 h4; rw [HX.out] at h4; clear hP4 hF4; obtain ⟨qo, qf, qa, qb, qsa, qsn, qsc, qka, qkn, qkc, rfl, hq4, hP4, hF4⟩ := h4.get; have s4x := hF4.size; skip; have kR4 := (hF4.block w.heap.size (by omega) (by first | omega | (simp; omega))).trans KR7.out; have hF4' := hF7.trans hF4; have z0 : w4.cell? ⟨w.heap.size, 0, none⟩ = some (.int .i64 0) := (Tx.blk kR4).1 0; have z1 : w4.cell? ⟨w.heap.size, 1, none⟩ = some (.int .i64 0) := (Tx.blk kR4).1 1; have z2 : w4.cell? ⟨w.heap.size, 2, none⟩ = some (.slice none 0 0) := (Tx.blk kR4).1 2; have z3 : w4.cell? ⟨w.heap.size, 3, none⟩ = some (.int .i64 0) := (Tx.blk kR4).1 3; have z4 : w4.cell? ⟨w.heap.size, 4, none⟩ = some (.int .i64 0) := (Tx.blk kR4).1 4; have z5 : w4.cell? ⟨w.heap.size, 5, none⟩ = some (.slice none 0 0) := (Tx.blk kR4).1 5; have fr9 : ∀ i, w4.frozen? ⟨w.heap.size, i, none⟩ = false := (Tx.blk kR4).2.1; obtain ⟨ta4, tc4, kg4, _, _⟩ := hP4.blk; have KP4 := Lib.hid kg4; clear kg4 kR4)
  | (go_at_call 252; refine (L2 _ hP6).mono ?_; rintro e w7 ⟨rfl, hb7⟩; have s7 := hb7.size; have KT7 := Lib.hid (Tx.blk_later KT6.out hb7); have KR7 := Lib.hid (Tx.blk_later KR6.out hb7); have hF7 := hF6.trans (.of_below hb7); have hP7 := hP6.below hb7; have e71 : w7.cell? ⟨w2.heap.size, 1, none⟩ = some (.string ⟨([121, 101, 97, 114] : List UInt8).toArray⟩) := (Tx.blk KT7.out).1 1)
  | (go_at_call 251; refine (begins_c g l _ _ hP5).mono ?_; rintro e w6 ⟨rfl, hb6⟩; have s6 := hb6.size; have KT6 := Lib.hid (Tx.blk_later KT5.out hb6); have KR6 := Lib.hid (Tx.blk_later KR5.out hb6); have hF6 := hF5.trans (.of_below hb6); have hP6 := hP5.below hb6; rw [HB2.out])
  | (go_at_call 252; refine (L2 _ hP4).mono ?_; rintro e w5 ⟨rfl, hb5⟩; have s5 := hb5.size; have KT5 := Lib.hid (Tx.blk_later KT4.out hb5); have KR5 := Lib.hid (Tx.blk_later KR4.out hb5); have hF5 := hF4.trans (.of_below hb5); have hP5 := hP4.below hb5; clear eg fg eg3 fg3 e30)
  | (go_at_call 252; refine (L1 _ hP2).mono ?_; rintro e w3 ⟨rfl, hb3⟩; have s3 := hb3.size; simp only [World.size_alloc] at s3; have kT3 : (w3.alloc (.cells #[.int .u8 58, .string ⟨nt.toArray⟩, .bool true] 205)).heap[w2.heap.size]? = some (.cells #[.int .u8 114, .string ⟨([121, 101, 97, 114] : List UInt8).toArray⟩, .bool tg] 205 (0, 0)) := Tx.blk_later (Tx.blk_later KT2.out hb3) (Tx.newb w3 _); have kg3 : (w3.alloc (.cells #[.int .u8 58, .string ⟨nt.toArray⟩, .bool true] 205)).heap[g]? = some (.cells #[.slice ta l.length tc, .int .i64 (A : Int)] 129 (0, 0)) := Tx.blk_later (Tx.blk_later KG2.out hb3) (Tx.newb w3 _); have kR3 : (w3.alloc (.cells #[.int .u8 58, .string ⟨nt.toArray⟩, .bool true] 205)).heap[w.heap.size]? = some (.cells Qr.zeroQ 29 (0, 0)) := Tx.blk_later (Tx.blk_later KR2.out hb3) (Tx.newb w3 _); have hF3 : Qr.Fr g w (w3.alloc (.cells #[.int .u8 58, .string ⟨nt.toArray⟩, .bool true] 205)) := (hF2.trans (.of_below hb3)).alloc _; have hP3 : Qr.PS g l r (w3.alloc (.cells #[.int .u8 58, .string ⟨nt.toArray⟩, .bool true] 205)) := (hP2.below hb3).below (Tx.newb w3 _); have e30 : (w3.alloc (.cells #[.int .u8 58, .string ⟨nt.toArray⟩, .bool true] 205)).cell? ⟨w2.heap.size, 0, none⟩ = some (.int .u8 114) := (Tx.blk kT3).1 0; have eg3 : (w3.alloc (.cells #[.int .u8 58, .string ⟨nt.toArray⟩, .bool true] 205)).cell? ⟨g, 1, none⟩ = some (.int .i64 (A : Int)) := (Tx.blk kg3).1 1; have fg3 : ∀ i, (w3.alloc (.cells #[.int .u8 58, .string ⟨nt.toArray⟩, .bool true] 205)).frozen? ⟨g, i, none⟩ = false := (Tx.blk kg3).2.1; have KT3 := Lib.hid kT3; have KG3 := Lib.hid kg3; have KR3 := Lib.hid kR3; clear kT3 kg3 kR3; have kg4 : ((w3.alloc (.cells #[.int .u8 58, .string ⟨nt.toArray⟩, .bool true] 205)).setCell ⟨g, 1, none⟩ (.int .i64 ((A : Int) + 2))).heap[g]? = some (.cells #[.slice ta l.length tc, .int .i64 ((A : Int) + 2)] 129 (0, 0)) := Qr.blk_set1 KG3.out _; have hF4 : Qr.Fr g w ((w3.alloc (.cells #[.int .u8 58, .string ⟨nt.toArray⟩, .bool true] 205)).setCell ⟨g, 1, none⟩ (.int .i64 ((A : Int) + 2))) := hF3.set rfl _; have hP4 : Qr.PS g l r.tail.tail ((w3.alloc (.cells #[.int .u8 58, .string ⟨nt.toArray⟩, .bool true] 205)).setCell ⟨g, 1, none⟩ (.int .i64 ((A : Int) + 2))) := Qr.PS.of HPP.out KG.out hF4 HTT.out.1 kg4 HA2.out; have kR4 := Tx.blk_far (a := ⟨g, 1, none⟩) KR3.out (show w.heap.size ≠ g by omega) (.int .i64 ((A : Int) + 2)); have kT4 := Tx.blk_far (a := ⟨g, 1, none⟩) KT3.out (show w2.heap.size ≠ g by omega) (.int .i64 ((A : Int) + 2)); have s4 : ((w3.alloc (.cells #[.int .u8 58, .string ⟨nt.toArray⟩, .bool true] 205)).setCell ⟨g, 1, none⟩ (.int .i64 ((A : Int) + 2))).heap.size = w3.heap.size + 1 := (by simp [World.setCell]); have KR4 := Lib.hid kR4; have KT4 := Lib.hid kT4; clear kg4 kR4 kT4)
  | (go_at_call 252; refine (L0 _ hP1).mono ?_; rintro e w2 ⟨rfl, hb2⟩; have s2 := hb2.size; have kT2 : (w2.alloc (.cells #[.int .u8 114, .string ⟨([121, 101, 97, 114] : List UInt8).toArray⟩, .bool tg] 205)).heap[w2.heap.size]? = some (.cells #[.int .u8 114, .string ⟨([121, 101, 97, 114] : List UInt8).toArray⟩, .bool tg] 205 (0, 0)) := heap_alloc_new _ _; have kg2 : (w2.alloc (.cells #[.int .u8 114, .string ⟨([121, 101, 97, 114] : List UInt8).toArray⟩, .bool tg] 205)).heap[g]? = some (.cells #[.slice ta l.length tc, .int .i64 (A : Int)] 129 (0, 0)) := Tx.blk_later (Tx.blk_later KG1.out hb2) (Tx.newb w2 _); have kR2 : (w2.alloc (.cells #[.int .u8 114, .string ⟨([121, 101, 97, 114] : List UInt8).toArray⟩, .bool tg] 205)).heap[w.heap.size]? = some (.cells Qr.zeroQ 29 (0, 0)) := Tx.blk_later (Tx.blk_later KR1.out hb2) (Tx.newb w2 _); have hF2 : Qr.Fr g w (w2.alloc (.cells #[.int .u8 114, .string ⟨([121, 101, 97, 114] : List UInt8).toArray⟩, .bool tg] 205)) := (hF1.trans (.of_below hb2)).alloc _; have hP2 : Qr.PS g l r (w2.alloc (.cells #[.int .u8 114, .string ⟨([121, 101, 97, 114] : List UInt8).toArray⟩, .bool tg] 205)) := (hP1.below hb2).below (Tx.newb w2 _); have eg : (w2.alloc (.cells #[.int .u8 114, .string ⟨([121, 101, 97, 114] : List UInt8).toArray⟩, .bool tg] 205)).cell? ⟨g, 1, none⟩ = some (.int .i64 (A : Int)) := (Tx.blk kg2).1 1; have fg : ∀ i, (w2.alloc (.cells #[.int .u8 114, .string ⟨([121, 101, 97, 114] : List UInt8).toArray⟩, .bool tg] 205)).frozen? ⟨g, i, none⟩ = false := (Tx.blk kg2).2.1; have KT2 := Lib.hid kT2; have KG2 := Lib.hid kg2; have KR2 := Lib.hid kR2; clear kT2 kg2 kR2)
  | (go_at_call 251; refine (begins_c g l r _ hP0).mono ?_; rintro e w1 ⟨rfl, hb1⟩; rw [HB.out]; have hP1 := hP0.below hb1; have s1 : w.heap.size < w1.heap.size := (by have := hb1.size; simp at this; omega); have KG1 := Lib.hid (Tx.blk_later (Tx.blk_later KG.out (Tx.newb w _)) hb1); have KR1 : Hid (w1.heap[w.heap.size]? = some (.cells Qr.zeroQ 29 (0, 0))) := Lib.hid (Tx.blk_later (heap_alloc_new w _) hb1); have hF1 : Qr.Fr g w w1 := ((Qr.Fr.refl g w).alloc _).trans (.of_below hb1)))
 refine bodyPost_ret (v := .agg #[.int .i64 qo, .int .i64 qf, .slice qsa qsn qsc, .int .i64 qa, .int .i64 qb, .slice qka qkn qkc]) (by simp [results, Tryz.results287, go_sem, z0, z1, z2, z3, z4, z5]) rfl ⟨⟨qo, qf, qsa, qsn, qsc, qa, qb, qka, qkn, qkc⟩, rfl, (hq4.kp (Qr.Kp.put6 (Qr.Kp.refl _ _) (by omega) _ _ _ _ _ _)).mono (by omega), Qr.PS.of' hP4 KP4.out (Tx.put6 (Below.refl _ _) (by omega) _ _ _ _ _ _) (List.suffix_refl _) (Qr.far6 KP4.out (show g ≠ w.heap.size by omega) _ _ _ _ _ _) rfl, Qr.Fr.put6 hF4' (Nat.le_refl _) _ _ _ _ _ _⟩
end Go.Proofs.YtlakomilichhnaaGreatDoor
namespace Go.Proofs.YtlakomilichhnaaGreatDoor
open Go.RowKit
set_option maxRecDepth 100000
attribute [local go_sem] Qr.run_tok0 Qr.run_tok1 Qr.run_tok2
namespace Qr
def nms : List (List UInt8) := [[97, 110, 121], [116, 105], [97, 117], [115, 117], [110, 117]]
theorem fieldOf_at {k : Nat} {t : List UInt8} (h : nms[k]? = some t) : fieldOf t = some (k : Int) := by
 match k, h with
 | 0, h => injection h with h; subst h; rfl
 | 1, h => injection h with h; subst h; rfl
 | 2, h => injection h with h; subst h; rfl
 | 3, h => injection h with h; subst h; rfl
 | 4, h => injection h with h; subst h; rfl
 | k + 5, h => simp [nms] at h
theorem fieldOf_none {t : List UInt8} (h : ∀ x ∈ nms, x ≠ t) : fieldOf t = none := by
 have h0 := h [97, 110, 121] (by simp [nms])
 have h1 := h [116, 105] (by simp [nms])
 have h2 := h [97, 117] (by simp [nms])
 have h3 := h [115, 117] (by simp [nms])
 have h4 := h [110, 117] (by simp [nms])
 unfold fieldOf
 rw [if_neg h0.symm, if_neg h1.symm, if_neg h2.symm, if_neg h3.symm, if_neg h4.symm]
theorem nms_cell {w : World} {b k : Nat} {x : List UInt8} (h : w.heap[b]? = some (.cells #[.string ⟨#[97, 110, 121]⟩, .string ⟨#[116, 105]⟩, .string ⟨#[97, 117]⟩, .string ⟨#[115, 117]⟩, .string ⟨#[110, 117]⟩] 9 (0, 0))) (hx : nms[k]? = some x) : w.cell? ⟨b, k, none⟩ = some (.string ⟨x.toArray⟩) := by
 have hc := (Tx.blk h).1
 match k, hx with
 | 0, hx => injection hx with hx; subst hx; exact hc 0
 | 1, hx => injection hx with hx; subst hx; exact hc 1
 | 2, hx => injection hx with hx; subst hx; exact hc 2
 | 3, hx => injection hx with hx; subst hx; exact hc 3
 | 4, hx => injection hx with hx; subst hx; exact hc 4
 | k + 5, hx => simp [nms] at hx
end Qr
namespace Qr
def Qy.withF (f : Int) : Qy → Qy | .mk o _ ws a b ks => .mk o f ws a b ks
theorem pTerm_f (st : Bool) (f : Int) (r : List Tok) : pTerm st f r = (pTerm st 0 r).map fun x => (x.1.withF f, x.2) := by
 unfold pTerm
 repeat' split
 all_goals rfl
theorem QC.setF {B : Nat} {w : World} {q : Qy} {o f a b : Int} {sa ka : Option Addr} {sn sc kn kc : Nat} (f' : Int) (h : QC B w q [.int .i64 o, .int .i64 f, .slice sa sn sc, .int .i64 a, .int .i64 b, .slice ka kn kc]) : QC B w (q.withF f') [.int .i64 o, .int .i64 f', .slice sa sn sc, .int .i64 a, .int .i64 b, .slice ka kn kc] := by
 cases h with
 | mk hw hwb hl hk hf hfb => exact .mk hw hwb hl hk hf hfb
end Qr
set_option maxHeartbeats 3200000 in
theorem prim_name (g : Nat) (l r : List Qr.Tok) (w : World) (hP : Qr.PS g l r w) (kk : UInt8) (tt : List UInt8) (tg : Bool) (K : Int) (ht : Qr.lk r = ⟨kk, tt, tg⟩) (hK : (kk.toNat : Int) = K) (hb : Qr.begins r = true) (nk : UInt8) (nt : List UInt8) (ng : Bool) (N : Int) (hn : Qr.lk1 r = ⟨nk, nt, ng⟩) (hN : (nk.toNat : Int) = N) (hK4 : K = 114) (hN5 : N = 58) (hg1 : ng = true) (k2 : UInt8) (t2 : List UInt8) (g2 : Bool) (K2 : Int) (ht2 : Qr.lk r.tail.tail = ⟨k2, t2, g2⟩) (hK2 : (k2.toNat : Int) = K2) (hg2 : g2 = true) (hb2 : Qr.begins r.tail.tail = true) (h40 : ¬ K2 = 40) (hwt : Qr.word0 r.tail.tail = true) (hty : tt ≠ [121, 101, 97, 114]) (X : Qr.PR) (hX : X = match Qr.fieldOf tt with | none => none | some f => Qr.pTerm true f r.tail.tail) :
  Calls Tryz.prog 287 #[.pointer (some ⟨g, 0, none⟩)] w fun e w' => Qr.Res g l X w e w' := by
 have hsl := hP.suf.length_le
 have hll := hP.len
 have hgl := hP.lt
 obtain ⟨ta, tc, kg, _, _⟩ := hP.blk
 obtain ⟨A, hA⟩ : ∃ A, l.length - r.length = A := ⟨_, rfl⟩
 rw [hA] at kg
 have hP0 := hP.below (Tx.newb w (.cells Qr.zeroQ 29))
 have KG := Lib.hid kg; clear kg
 have HPP := Lib.hid hP; clear hP
 have hk1 := Qr.begins_ne hb
 have hte := Qr.tail_eats hk1
 have L0 := fun w h => look0 (K := K) (w := w) (g := g) (l := l) ht hK h
 have HB := Lib.hid hb; clear hb
 have HTE := Lib.hid hte; clear hk1
 have hA1 : (A : Int) + 1 = ((l.length - r.tail.length : Nat) : Int) := by have := hte.2; rw [List.length_tail] at this ⊢; omega
 have hw1 := IntWalk.i64_in ((A : Int) + 1) ⟨by omega, by omega⟩
 have HA1 := Lib.hid hA1; clear hA1 hte ht hK
 subst hK4; subst hN5; subst hg1
 have hk2 : (Qr.lk r.tail).k ≠ 0 := by rw [show Qr.lk r.tail = ⟨nk, nt, true⟩ from hn]; intro h0; have h0' : nk = 0 := h0; rw [h0'] at hN; simp at hN
 have htt := (Qr.tail_eats hk2).1.trans HTE.out.1
 have hA2 : (A : Int) + 2 = ((l.length - r.tail.tail.length : Nat) : Int) := by
  have h1 := HA1.out
  have h2 := (Qr.tail_eats hk2).2
  have h3 := HTE.out.1.length_le
  rw [List.length_tail (l := r.tail)] at h2 ⊢
  omega
 have hw2 := IntWalk.i64_in ((A : Int) + 2) ⟨by omega, by omega⟩
 have HA2 := Lib.hid hA2
 have HTT : Hid (r.tail.tail <:+ r ∧ True) := Lib.hid ⟨htt, trivial⟩
 have L1 := fun w h => look1 (K := 58) (w := w) (g := g) (l := l) hn hN h
 have L2 := fun w h => look0 (r := r.tail.tail) (K := K2) (w := w) (g := g) (l := l) ht2 hK2 h
 clear hN hn ht2 hK2 hA2 htt hk2
 subst hg2
 have n40 : (K2 == 40) = false := beq_eq_false_iff_ne.2 h40
 have HB2 := Lib.hid hb2; clear hb2
 have HW2 := Lib.hid hwt; clear hwt
 have HX := Lib.hid hX; clear hX
 have ny : (tt == ([121, 101, 97, 114] : List UInt8)) = false := beq_eq_false_iff_ne.2 hty
 go_enter Tryz.func287, Tryz.ntmps287
 go_wp2_with (first
  | (go_at_call 302; refine (names_c _).mono ?_; rintro e w8 ⟨rfl, rfl⟩; have KT8 := Lib.hid (Tx.blk_later KT7.out (Tx.newb w7 (.cells #[.string ⟨#[97, 110, 121]⟩, .string ⟨#[116, 105]⟩, .string ⟨#[97, 117]⟩, .string ⟨#[115, 117]⟩, .string ⟨#[110, 117]⟩] 9))); have KR8 := Lib.hid (Tx.blk_later KR7.out (Tx.newb w7 (.cells #[.string ⟨#[97, 110, 121]⟩, .string ⟨#[116, 105]⟩, .string ⟨#[97, 117]⟩, .string ⟨#[115, 117]⟩, .string ⟨#[110, 117]⟩] 9))); have hF8 : Qr.Fr g w (w7.alloc (.cells #[.string ⟨#[97, 110, 121]⟩, .string ⟨#[116, 105]⟩, .string ⟨#[97, 117]⟩, .string ⟨#[115, 117]⟩, .string ⟨#[110, 117]⟩] 9)) := hF7.alloc _; have hP8 : Qr.PS g l r.tail.tail (w7.alloc (.cells #[.string ⟨#[97, 110, 121]⟩, .string ⟨#[116, 105]⟩, .string ⟨#[97, 117]⟩, .string ⟨#[115, 117]⟩, .string ⟨#[110, 117]⟩] 9)) := hP7.below (Tx.newb w7 _); have KN8 : Hid ((w7.alloc (.cells #[.string ⟨#[97, 110, 121]⟩, .string ⟨#[116, 105]⟩, .string ⟨#[97, 117]⟩, .string ⟨#[115, 117]⟩, .string ⟨#[110, 117]⟩] 9)).heap[w7.heap.size]? = some (.cells #[.string ⟨#[97, 110, 121]⟩, .string ⟨#[116, 105]⟩, .string ⟨#[97, 117]⟩, .string ⟨#[115, 117]⟩, .string ⟨#[110, 117]⟩] 9 (0, 0))) := Lib.hid (heap_alloc_new w7 _); have s8 : (w7.alloc (.cells #[.string ⟨#[97, 110, 121]⟩, .string ⟨#[116, 105]⟩, .string ⟨#[97, 117]⟩, .string ⟨#[115, 117]⟩, .string ⟨#[110, 117]⟩] 9)).heap.size = w7.heap.size + 1 := (by simp))
  | (go_at_call 252; refine (L2 _ hP6).mono ?_; rintro e w7 ⟨rfl, hb7⟩; have s7 := hb7.size; have KT7 := Lib.hid (Tx.blk_later KT6.out hb7); have KR7 := Lib.hid (Tx.blk_later KR6.out hb7); have hF7 := hF6.trans (.of_below hb7); have hP7 := hP6.below hb7; have e71 : w7.cell? ⟨w2.heap.size, 1, none⟩ = some (.string ⟨tt.toArray⟩) := (Tx.blk KT7.out).1 1)
  | (go_at_call 251; refine (begins_c g l _ _ hP5).mono ?_; rintro e w6 ⟨rfl, hb6⟩; have s6 := hb6.size; have KT6 := Lib.hid (Tx.blk_later KT5.out hb6); have KR6 := Lib.hid (Tx.blk_later KR5.out hb6); have hF6 := hF5.trans (.of_below hb6); have hP6 := hP5.below hb6; rw [HB2.out])
  | (go_at_call 252; refine (L2 _ hP4).mono ?_; rintro e w5 ⟨rfl, hb5⟩; have s5 := hb5.size; have KT5 := Lib.hid (Tx.blk_later KT4.out hb5); have KR5 := Lib.hid (Tx.blk_later KR4.out hb5); have hF5 := hF4.trans (.of_below hb5); have hP5 := hP4.below hb5; clear eg fg eg3 fg3 e30)
  | (go_at_call 252; refine (L1 _ hP2).mono ?_; rintro e w3 ⟨rfl, hb3⟩; have s3 := hb3.size; simp only [World.size_alloc] at s3; have kT3 : (w3.alloc (.cells #[.int .u8 58, .string ⟨nt.toArray⟩, .bool true] 205)).heap[w2.heap.size]? = some (.cells #[.int .u8 114, .string ⟨tt.toArray⟩, .bool tg] 205 (0, 0)) := Tx.blk_later (Tx.blk_later KT2.out hb3) (Tx.newb w3 _); have kg3 : (w3.alloc (.cells #[.int .u8 58, .string ⟨nt.toArray⟩, .bool true] 205)).heap[g]? = some (.cells #[.slice ta l.length tc, .int .i64 (A : Int)] 129 (0, 0)) := Tx.blk_later (Tx.blk_later KG2.out hb3) (Tx.newb w3 _); have kR3 : (w3.alloc (.cells #[.int .u8 58, .string ⟨nt.toArray⟩, .bool true] 205)).heap[w.heap.size]? = some (.cells Qr.zeroQ 29 (0, 0)) := Tx.blk_later (Tx.blk_later KR2.out hb3) (Tx.newb w3 _); have hF3 : Qr.Fr g w (w3.alloc (.cells #[.int .u8 58, .string ⟨nt.toArray⟩, .bool true] 205)) := (hF2.trans (.of_below hb3)).alloc _; have hP3 : Qr.PS g l r (w3.alloc (.cells #[.int .u8 58, .string ⟨nt.toArray⟩, .bool true] 205)) := (hP2.below hb3).below (Tx.newb w3 _); have e30 : (w3.alloc (.cells #[.int .u8 58, .string ⟨nt.toArray⟩, .bool true] 205)).cell? ⟨w2.heap.size, 0, none⟩ = some (.int .u8 114) := (Tx.blk kT3).1 0; have eg3 : (w3.alloc (.cells #[.int .u8 58, .string ⟨nt.toArray⟩, .bool true] 205)).cell? ⟨g, 1, none⟩ = some (.int .i64 (A : Int)) := (Tx.blk kg3).1 1; have fg3 : ∀ i, (w3.alloc (.cells #[.int .u8 58, .string ⟨nt.toArray⟩, .bool true] 205)).frozen? ⟨g, i, none⟩ = false := (Tx.blk kg3).2.1; have KT3 := Lib.hid kT3; have KG3 := Lib.hid kg3; have KR3 := Lib.hid kR3; clear kT3 kg3 kR3; have kg4 : ((w3.alloc (.cells #[.int .u8 58, .string ⟨nt.toArray⟩, .bool true] 205)).setCell ⟨g, 1, none⟩ (.int .i64 ((A : Int) + 2))).heap[g]? = some (.cells #[.slice ta l.length tc, .int .i64 ((A : Int) + 2)] 129 (0, 0)) := Qr.blk_set1 KG3.out _; have hF4 : Qr.Fr g w ((w3.alloc (.cells #[.int .u8 58, .string ⟨nt.toArray⟩, .bool true] 205)).setCell ⟨g, 1, none⟩ (.int .i64 ((A : Int) + 2))) := hF3.set rfl _; have hP4 : Qr.PS g l r.tail.tail ((w3.alloc (.cells #[.int .u8 58, .string ⟨nt.toArray⟩, .bool true] 205)).setCell ⟨g, 1, none⟩ (.int .i64 ((A : Int) + 2))) := Qr.PS.of HPP.out KG.out hF4 HTT.out.1 kg4 HA2.out; have kR4 := Tx.blk_far (a := ⟨g, 1, none⟩) KR3.out (show w.heap.size ≠ g by omega) (.int .i64 ((A : Int) + 2)); have kT4 := Tx.blk_far (a := ⟨g, 1, none⟩) KT3.out (show w2.heap.size ≠ g by omega) (.int .i64 ((A : Int) + 2)); have s4 : ((w3.alloc (.cells #[.int .u8 58, .string ⟨nt.toArray⟩, .bool true] 205)).setCell ⟨g, 1, none⟩ (.int .i64 ((A : Int) + 2))).heap.size = w3.heap.size + 1 := (by simp [World.setCell]); have KR4 := Lib.hid kR4; have KT4 := Lib.hid kT4; clear kg4 kR4 kT4)
  | (go_at_call 252; refine (L0 _ hP1).mono ?_; rintro e w2 ⟨rfl, hb2⟩; have s2 := hb2.size; have kT2 : (w2.alloc (.cells #[.int .u8 114, .string ⟨tt.toArray⟩, .bool tg] 205)).heap[w2.heap.size]? = some (.cells #[.int .u8 114, .string ⟨tt.toArray⟩, .bool tg] 205 (0, 0)) := heap_alloc_new _ _; have kg2 : (w2.alloc (.cells #[.int .u8 114, .string ⟨tt.toArray⟩, .bool tg] 205)).heap[g]? = some (.cells #[.slice ta l.length tc, .int .i64 (A : Int)] 129 (0, 0)) := Tx.blk_later (Tx.blk_later KG1.out hb2) (Tx.newb w2 _); have kR2 : (w2.alloc (.cells #[.int .u8 114, .string ⟨tt.toArray⟩, .bool tg] 205)).heap[w.heap.size]? = some (.cells Qr.zeroQ 29 (0, 0)) := Tx.blk_later (Tx.blk_later KR1.out hb2) (Tx.newb w2 _); have hF2 : Qr.Fr g w (w2.alloc (.cells #[.int .u8 114, .string ⟨tt.toArray⟩, .bool tg] 205)) := (hF1.trans (.of_below hb2)).alloc _; have hP2 : Qr.PS g l r (w2.alloc (.cells #[.int .u8 114, .string ⟨tt.toArray⟩, .bool tg] 205)) := (hP1.below hb2).below (Tx.newb w2 _); have eg : (w2.alloc (.cells #[.int .u8 114, .string ⟨tt.toArray⟩, .bool tg] 205)).cell? ⟨g, 1, none⟩ = some (.int .i64 (A : Int)) := (Tx.blk kg2).1 1; have fg : ∀ i, (w2.alloc (.cells #[.int .u8 114, .string ⟨tt.toArray⟩, .bool tg] 205)).frozen? ⟨g, i, none⟩ = false := (Tx.blk kg2).2.1; have KT2 := Lib.hid kT2; have KG2 := Lib.hid kg2; have KR2 := Lib.hid kR2; clear kT2 kg2 kR2)
  | (go_at_call 251; refine (begins_c g l r _ hP0).mono ?_; rintro e w1 ⟨rfl, hb1⟩; rw [HB.out]; have hP1 := hP0.below hb1; have s1 : w.heap.size < w1.heap.size := (by have := hb1.size; simp at this; omega); have KG1 := Lib.hid (Tx.blk_later (Tx.blk_later KG.out (Tx.newb w _)) hb1); have KR1 : Hid (w1.heap[w.heap.size]? = some (.cells Qr.zeroQ 29 (0, 0))) := Lib.hid (Tx.blk_later (heap_alloc_new w _) hb1); have hF1 : Qr.Fr g w w1 := ((Qr.Fr.refl g w).alloc _).trans (.of_below hb1)))
 have hsame : ∃ W9, W9 = (w7.alloc (.cells #[.string ⟨#[97, 110, 121]⟩, .string ⟨#[116, 105]⟩, .string ⟨#[97, 117]⟩, .string ⟨#[115, 117]⟩, .string ⟨#[110, 117]⟩] 9)) := ⟨_, rfl⟩
 obtain ⟨W9, hW9⟩ := hsame
 have KT9 : Hid (W9.heap[w2.heap.size]? = some (.cells #[.int .u8 114, .string ⟨tt.toArray⟩, .bool tg] 205 (0, 0))) := Lib.hid (by rw [hW9]; exact KT8.out)
 have KR9 : Hid (W9.heap[w.heap.size]? = some (.cells Qr.zeroQ 29 (0, 0))) := Lib.hid (by rw [hW9]; exact KR8.out)
 have KN9 : Hid (W9.heap[w7.heap.size]? = some (.cells #[.string ⟨#[97, 110, 121]⟩, .string ⟨#[116, 105]⟩, .string ⟨#[97, 117]⟩, .string ⟨#[115, 117]⟩, .string ⟨#[110, 117]⟩] 9 (0, 0))) := Lib.hid (by rw [hW9]; exact KN8.out)
 have hF9 : Qr.Fr g w W9 := by rw [hW9]; exact hF8
 have hP9 : Qr.PS g l r.tail.tail W9 := by rw [hW9]; exact hP8
 have s9 : W9.heap.size = w7.heap.size + 1 := by rw [hW9]; exact s8
 rw [← hW9]
 clear hW9 KT8 KR8 KN8 hF8 hP8 s8
 go_loopw [87] (fun i wr => ∃ k : Nat, k ≤ 5 ∧ i = .int .i64 k ∧ Hid (∀ x ∈ Qr.nms.take k, x ≠ tt) ∧ wr = W9) (fun i _ => 5 - (intOf i).toNat)
 case atStart => exact ⟨0, by omega, rfl, Lib.hid (by simp), rfl⟩
 case round =>
  obtain ⟨k, hk, rfl, hne, hwr⟩ := hrel
  have hwr' : W9 = wr := hwr.symm
  clear hwr
  subst hwr'
  have et : W9.cell? ⟨w2.heap.size, 1, none⟩ = some (.string ⟨tt.toArray⟩) := (Tx.blk KT9.out).1 1
  by_cases hlt : k < 5
  ·obtain ⟨x, hx⟩ : ∃ x, Qr.nms[k]? = some x := ⟨_, List.getElem?_eq_getElem (by show k < 5; exact hlt)⟩
   have ex := Qr.nms_cell KN9.out hx
   by_cases hxt : x = tt
   ·have hxt' : tt = x := hxt.symm
    clear hxt
    subst hxt'
    have HF : Hid (Qr.fieldOf tt = some (k : Int)) := Lib.hid (Qr.fieldOf_at hx)
    clear hx
    cases hT : Qr.pTerm true 0 r.tail.tail with
    | none =>
     have HT := Lib.hid hT; clear hT
     have HXN : Hid (X = none) := Lib.hid (by rw [HX.out, HF.out]; simp only; rw [Qr.pTerm_f, HT.out]; rfl)
     go_wp2_with (first
      | (go_at_call 303; refine (term_c g l _ W9 hP9 HW2.out).mono ?_; rintro e w10 h10; rw [HT.out] at h10; obtain ⟨rfl, hF10⟩ := h10.bad; have hF10' := hF9.trans hF10))
     refine ⟨rfl, ?_⟩
     rw [HXN.out]
     exact ⟨rfl, hF10'⟩
    | some p =>
     obtain ⟨q, r'⟩ := p
     have HT := Lib.hid hT; clear hT
     have HXN : Hid (X = some (q.withF k, r')) := Lib.hid (by rw [HX.out, HF.out]; simp only; rw [Qr.pTerm_f, HT.out]; rfl)
     go_wp2_with (first
      | (go_at_call 303; refine (term_c g l _ W9 hP9 HW2.out).mono ?_; rintro e w10 h10; rw [HT.out] at h10; obtain ⟨qo, qf, qa, qb, qsa, qsn, qsc, qka, qkn, qkc, rfl, hq10, hP10, hF10⟩ := h10.get; have s10 := hF10.size; have hF10' := hF9.trans hF10; have kR10 := (hF10.block w.heap.size (by omega) (by omega)).trans KR9.out; have kR11 : (w10.alloc (.cells #[.int .i64 qo, .int .i64 (k : Int), .slice qsa qsn qsc, .int .i64 qa, .int .i64 qb, .slice qka qkn qkc] 29)).heap[w.heap.size]? = some (.cells Qr.zeroQ 29 (0, 0)) := Tx.blk_later kR10 (Tx.newb w10 _); have z0 : (w10.alloc (.cells #[.int .i64 qo, .int .i64 (k : Int), .slice qsa qsn qsc, .int .i64 qa, .int .i64 qb, .slice qka qkn qkc] 29)).cell? ⟨w.heap.size, 0, none⟩ = some (.int .i64 0) := (Tx.blk kR11).1 0; have z1 : (w10.alloc (.cells #[.int .i64 qo, .int .i64 (k : Int), .slice qsa qsn qsc, .int .i64 qa, .int .i64 qb, .slice qka qkn qkc] 29)).cell? ⟨w.heap.size, 1, none⟩ = some (.int .i64 0) := (Tx.blk kR11).1 1; have z2 : (w10.alloc (.cells #[.int .i64 qo, .int .i64 (k : Int), .slice qsa qsn qsc, .int .i64 qa, .int .i64 qb, .slice qka qkn qkc] 29)).cell? ⟨w.heap.size, 2, none⟩ = some (.slice none 0 0) := (Tx.blk kR11).1 2; have z3 : (w10.alloc (.cells #[.int .i64 qo, .int .i64 (k : Int), .slice qsa qsn qsc, .int .i64 qa, .int .i64 qb, .slice qka qkn qkc] 29)).cell? ⟨w.heap.size, 3, none⟩ = some (.int .i64 0) := (Tx.blk kR11).1 3; have z4 : (w10.alloc (.cells #[.int .i64 qo, .int .i64 (k : Int), .slice qsa qsn qsc, .int .i64 qa, .int .i64 qb, .slice qka qkn qkc] 29)).cell? ⟨w.heap.size, 4, none⟩ = some (.int .i64 0) := (Tx.blk kR11).1 4; have z5 : (w10.alloc (.cells #[.int .i64 qo, .int .i64 (k : Int), .slice qsa qsn qsc, .int .i64 qa, .int .i64 qb, .slice qka qkn qkc] 29)).cell? ⟨w.heap.size, 5, none⟩ = some (.slice none 0 0) := (Tx.blk kR11).1 5; have fr11 : ∀ i, (w10.alloc (.cells #[.int .i64 qo, .int .i64 (k : Int), .slice qsa qsn qsc, .int .i64 qa, .int .i64 qb, .slice qka qkn qkc] 29)).frozen? ⟨w.heap.size, i, none⟩ = false := (Tx.blk kR11).2.1; obtain ⟨ta4, tc4, kg4, _, _⟩ := hP10.blk; have KP4 := Lib.hid kg4; clear kg4 kR10 kR11))
     refine bodyPost_ret (v := .agg #[.int .i64 qo, .int .i64 k, .slice qsa qsn qsc, .int .i64 qa, .int .i64 qb, .slice qka qkn qkc]) (by simp [results, Tryz.results287, go_sem, z0, z1, z2, z3, z4, z5]) rfl ?_
     rw [HXN.out]
     exact ⟨⟨qo, k, qsa, qsn, qsc, qa, qb, qka, qkn, qkc⟩, rfl, ((hq10.setF k).kp (Qr.Kp.put6 (Qr.Kp.below (Tx.newb w10 _)) (by omega) _ _ _ _ _ _)).mono (by omega), Qr.PS.of' hP10 KP4.out (Tx.put6 ((Below.refl _ _).alloc (by omega) _) (by omega) _ _ _ _ _ _) (List.suffix_refl _) (Qr.far6 (Tx.blk_later KP4.out (Tx.newb w10 _)) (show g ≠ w.heap.size by omega) _ _ _ _ _ _) rfl, Qr.Fr.put6 (hF10'.alloc _) (Nat.le_refl _) _ _ _ _ _ _⟩
   ·have hxb : (x == tt) = false := beq_eq_false_iff_ne.2 hxt
    have HN2 : Hid (∀ y ∈ Qr.nms.take (k + 1), y ≠ tt) := Lib.hid (by
     rw [Qr.take_snoc hx]
     intro y hy
     rw [List.mem_append, List.mem_singleton] at hy
     rcases hy with hy | rfl
     ·exact hne.out y hy
     ·exact hxt)
    clear hx
    go_wp2
    go_roundw
    case rel => exact ⟨k + 1, by omega, by go_num, HN2, trivial⟩
    case measure => simp [intOf]; omega
  ·have hkk : k = 5 := by omega
   subst hkk
   have HXN : Hid (X = none) := Lib.hid (by rw [HX.out, Qr.fieldOf_none (fun x hx => hne.out x hx)])
   go_wp2
   refine ⟨rfl, ?_⟩
   rw [HXN.out]
   exact ⟨rfl, hF9⟩
end Go.Proofs.YtlakomilichhnaaGreatDoor
namespace Go.Proofs.YtlakomilichhnaaGreatDoor
open Go.RowKit
set_option maxRecDepth 100000
namespace Qr
theorem begins_word {r : List Tok} (h : begins r = true) (h40 : (lk r).k ≠ 40) : word0 r = true := by
 unfold begins at h
 simp only [Bool.or_eq_true, beq_iff_eq] at h
 rcases h with h | h
 ·exact absurd h h40
 ·exact h
theorem not_begins {r : List Tok} (h : begins r = false) : word0 r = false ∧ (lk r).k ≠ 40 := by
 unfold begins at h
 simp only [Bool.or_eq_false_iff, beq_eq_false_iff_ne] at h
 exact ⟨h.2, h.1⟩
end Qr
theorem prim_c (g n : Nat) (l : List Qr.Tok) (hOr : ∀ (r : List Qr.Tok) (w : World), 8 * r.length + 7 ≤ n → Qr.PS g l r w → Calls Tryz.prog 117 #[.pointer (some ⟨g, 0, none⟩)] w (Qr.Res g l (Qr.pOr true n r) w))
  (r : List Qr.Tok) (w : World) (hn : 8 * r.length + 4 ≤ n + 1) (hP : Qr.PS g l r w) :
  Calls Tryz.prog 287 #[.pointer (some ⟨g, 0, none⟩)] w (Qr.Res g l (Qr.pPrim true (n + 1) r) w) := by
 cases hb : Qr.begins r with
 | false =>
  have h1 := Qr.not_begins hb
  have e : Qr.pPrim true (n + 1) r = none := by
   unfold Qr.pPrim Qr.pFlat
   rw [if_neg h1.2, if_pos h1.1]
  rw [e]
  exact (prim_bad g l r w hP hb)
 | true =>
  obtain ⟨⟨kk, tt, tg⟩, ht⟩ : ∃ t, Qr.lk r = t := ⟨_, rfl⟩
  obtain ⟨⟨nk, nt, ng⟩, hnx⟩ : ∃ t, Qr.lk1 r = t := ⟨_, rfl⟩
  have hte := Qr.tail_eats (Qr.begins_ne hb)
  by_cases h40 : kk = 40
  ·subst h40
   have hor := fun w h => hOr r.tail w (by have := hte.2; omega) h
   have e0 : Qr.pPrim true (n + 1) r = match Qr.pOr true n r.tail with
     | none => none
     | some (q, r') => if (Qr.lk r').k = 41 then some (q, r'.tail) else none := by
    rw [Qr.pPrim, if_pos (by rw [ht])]
    rfl
   cases ho : Qr.pOr true n r.tail with
   | none =>
    rw [ho] at hor e0
    rw [e0]
    exact prim_par_none g l r w hP 40 tt tg _ ht rfl hb rfl none hor rfl
   | some p =>
    obtain ⟨q, r'⟩ := p
    rw [ho] at hor e0
    have hsuf := ((Qr.eats_all true n).1 r.tail q r' ho).1.trans hte.1
    obtain ⟨⟨k5, t5, g5⟩, ht5⟩ : ∃ t, Qr.lk r' = t := ⟨_, rfl⟩
    by_cases h41 : k5 = 41
    ·have e1 : Qr.pPrim true (n + 1) r = some (q, r'.tail) := by rw [e0]; simp only; rw [if_pos (by rw [ht5]; exact h41)]
     rw [e1]
     exact prim_par_ok g l r w hP 40 tt tg _ ht rfl hb rfl _ hor q r' rfl k5 t5 g5 _ ht5 rfl hsuf h41
    ·have e1 : Qr.pPrim true (n + 1) r = none := by rw [e0]; simp only; rw [if_neg (by rw [ht5]; exact h41)]
     rw [e1]
     exact prim_par_bad g l r w hP 40 tt tg _ ht rfl hb rfl _ hor q r' rfl k5 t5 g5 _ ht5 rfl h41
  ·have hk : (Qr.lk r).k ≠ 40 := by rw [ht]; exact h40
   have hK : ¬ ((kk.toNat : Int) = 40) := fun h => h40 (UInt8.toNat_inj.1 (by rw [show (40 : UInt8).toNat = 40 from rfl]; omega))
   have hw := Qr.begins_word hb hk
   have e0 : Qr.pPrim true (n + 1) r = Qr.pFlat true r := by rw [Qr.pPrim, if_neg hk]
   rw [e0]
   have hkk := Qr.word0_k ht hw
   by_cases h58 : Qr.glue 58 r = true
   ·have hgl := h58
    rw [Qr.glue_eq ht hnx] at hgl
    simp only [Bool.and_eq_true, beq_iff_eq] at hgl
    obtain ⟨⟨rfl, rfl⟩, rfl⟩ := hgl
    obtain ⟨⟨k2, t2, g2⟩, ht2⟩ : ∃ t, Qr.lk r.tail.tail = t := ⟨_, rfl⟩
    have e1 : Qr.pFlat true r = if g2 = false then none else if Qr.word0 r.tail.tail = false then none else if tt = [121, 101, 97, 114] then Qr.pYears true r.tail.tail else match Qr.fieldOf tt with
      | none => none
      | some f => Qr.pTerm true f r.tail.tail := by
     unfold Qr.pFlat
     rw [if_neg (by simp [hw]), if_pos h58, ht2, ht]
     rfl
    cases g2 with
    | false =>
     rw [e1, if_pos rfl]
     exact prim_unglued g l r w hP 114 tt tg _ ht rfl hb 58 nt true _ hnx rfl rfl rfl rfl k2 t2 false _ ht2 rfl rfl
    | true =>
     rw [if_neg (by simp)] at e1
     cases hb2 : Qr.begins r.tail.tail with
     | false =>
      rw [e1, if_pos (Qr.not_begins hb2).1]
      exact prim_nobeg g l r w hP 114 tt tg _ ht rfl hb 58 nt true _ hnx rfl rfl rfl rfl k2 t2 true _ ht2 rfl rfl hb2
     | true =>
      by_cases h2 : k2 = 40
      ·have hw2 : Qr.word0 r.tail.tail = false := by
        unfold Qr.word0
        rw [ht2]
        simp [h2]
       rw [e1, if_pos hw2]
       exact prim_par2 g l r w hP 114 tt tg _ ht rfl hb 58 nt true _ hnx rfl rfl rfl rfl k2 t2 true _ ht2 rfl rfl hb2 (by rw [h2]; rfl)
      ·have hK2 : ¬ ((k2.toNat : Int) = 40) := fun h => h2 (UInt8.toNat_inj.1 (by rw [show (40 : UInt8).toNat = 40 from rfl]; omega))
       have hw2 := Qr.begins_word hb2 (by rw [ht2]; exact h2)
       rw [if_neg (by simp [hw2])] at e1
       by_cases hty : tt = [121, 101, 97, 114]
       ·rw [e1, if_pos hty]
        cases hx : Qr.pYears true r.tail.tail with
        | none => exact prim_year_none g l r w hP 114 tt tg _ ht rfl hb 58 nt true _ hnx rfl rfl rfl rfl k2 t2 true _ ht2 rfl rfl hb2 hK2 hw2 hty hx
        | some p => exact prim_year_ok g l r w hP 114 tt tg _ ht rfl hb 58 nt true _ hnx rfl rfl rfl rfl k2 t2 true _ ht2 rfl rfl hb2 hK2 hw2 hty p.1 p.2 hx
       ·rw [e1, if_neg hty]
        exact prim_name g l r w hP 114 tt tg _ ht rfl hb 58 nt true _ hnx rfl rfl rfl rfl k2 t2 true _ ht2 rfl rfl hb2 hK2 hw2 hty _ rfl
   ·have h58' : Qr.glue 58 r = false := by simpa using h58
    have hp := h58'
    rw [Qr.glue_eq ht hnx] at hp
    have e1 : Qr.pFlat true r = Qr.pTerm true 0 r := by
     unfold Qr.pFlat
     rw [if_neg (by simp [hw]), if_neg h58]
    rw [e1]
    cases hx : Qr.pTerm true 0 r with
    | none => exact prim_dir_none g l r w hP kk tt tg _ ht rfl hb nk nt ng _ hnx rfl hw hK (Qr.no_glue (c := 58) hkk hp) hx
    | some p => exact prim_dir_ok g l r w hP kk tt tg _ ht rfl hb nk nt ng _ hnx rfl hw hK (Qr.no_glue (c := 58) hkk hp) p.1 p.2 hx
end Go.Proofs.YtlakomilichhnaaGreatDoor
namespace Go.Proofs.YtlakomilichhnaaGreatDoor
open Go.RowKit
set_option maxRecDepth 100000
attribute [local go_sem] Qr.run_tok0 Qr.run_tok1 Qr.run_tok2
set_option maxHeartbeats 800000 in
theorem not_none (g : Nat) (l r : List Qr.Tok) (w : World) (hP : Qr.PS g l r w) (x : Qr.PR) (hPr : ∀ w, Qr.PS g l r w → Calls Tryz.prog 287 #[.pointer (some ⟨g, 0, none⟩)] w (Qr.Res g l x w)) (ho : x = none) :
  Calls Tryz.prog 250 #[.pointer (some ⟨g, 0, none⟩)] w fun e w' => e = .panicked [{ v := Qr.wrongP, recovered := false }] ∧ Qr.Fr g w w' := by
 have hgl := hP.lt
 have hll := hP.len
 have hP0 := hP.below (Tx.newb w (.cells Qr.zeroQ 29))
 have HPP := Lib.hid hP; clear hP
 have HO := Lib.hid ho; clear ho
 go_enter Tryz.func250, Tryz.ntmps250
 go_wp2_with (first
  | (go_at_call 287; refine (hPr _ hP0).mono ?_; rintro e w1 h1; rw [HO.out] at h1; obtain ⟨rfl, hF1⟩ := h1.bad; have hF1' : Qr.Fr g w w1 := ((Qr.Fr.refl g w).alloc _).trans hF1))
 exact ⟨rfl, rfl, hF1'⟩
set_option maxHeartbeats 800000 in
theorem not_plain (g : Nat) (l r : List Qr.Tok) (w : World) (hP : Qr.PS g l r w) (x : Qr.PR) (hPr : ∀ w, Qr.PS g l r w → Calls Tryz.prog 287 #[.pointer (some ⟨g, 0, none⟩)] w (Qr.Res g l x w)) (q : Qr.Qy) (r' : List Qr.Tok) (ho : x = some (q, r')) (hr' : r' <:+ r) (hi : Qr.isOp Qr.notB r' = false) :
  Calls Tryz.prog 250 #[.pointer (some ⟨g, 0, none⟩)] w fun e w' => Qr.Res g l (some (q, r')) w e w' := by
 have hgl := hP.lt
 have hll := hP.len
 have hP0 := hP.below (Tx.newb w (.cells Qr.zeroQ 29))
 have HPP := Lib.hid hP; clear hP
 have HO := Lib.hid ho; clear ho
 have hsl := hr'.length_le
 obtain ⟨A5, hA5⟩ : ∃ A5, l.length - r'.length = A5 := ⟨_, rfl⟩
 have hw5 := IntWalk.i64_in ((A5 : Int) + 1) ⟨by omega, by omega⟩
 have HA5 := Lib.hid hA5
 have HI := Lib.hid hi; clear hi hA5
 go_enter Tryz.func250, Tryz.ntmps250
 go_wp2_with (first
  | (go_at_call 196; refine (is_c g l r' Qr.notB _ hP1').mono ?_; rintro e w2 ⟨rfl, hb2⟩; rw [HI.out]; have s2 := hb2.size; simp only [World.size_alloc] at s2; have KR2 := Lib.hid (Tx.blk_later KR1.out hb2); have KQ2 := Lib.hid (Tx.blk_later KQ1.out hb2); have hF2 := hF1'.trans (.of_below hb2); have hP2 := hP1'.below hb2; have x0 : w2.cell? ⟨w1.heap.size, 0, none⟩ = some (.int .i64 qo) := (Tx.blk KQ2.out).1 0; have x1 : w2.cell? ⟨w1.heap.size, 1, none⟩ = some (.int .i64 qf) := (Tx.blk KQ2.out).1 1; have x2 : w2.cell? ⟨w1.heap.size, 2, none⟩ = some (.slice qsa qsn qsc) := (Tx.blk KQ2.out).1 2; have x3 : w2.cell? ⟨w1.heap.size, 3, none⟩ = some (.int .i64 qa) := (Tx.blk KQ2.out).1 3; have x4 : w2.cell? ⟨w1.heap.size, 4, none⟩ = some (.int .i64 qb) := (Tx.blk KQ2.out).1 4; have x5 : w2.cell? ⟨w1.heap.size, 5, none⟩ = some (.slice qka qkn qkc) := (Tx.blk KQ2.out).1 5; have z0 : w2.cell? ⟨w.heap.size, 0, none⟩ = some (.int .i64 0) := (Tx.blk KR2.out).1 0; have z1 : w2.cell? ⟨w.heap.size, 1, none⟩ = some (.int .i64 0) := (Tx.blk KR2.out).1 1; have z2 : w2.cell? ⟨w.heap.size, 2, none⟩ = some (.slice none 0 0) := (Tx.blk KR2.out).1 2; have z3 : w2.cell? ⟨w.heap.size, 3, none⟩ = some (.int .i64 0) := (Tx.blk KR2.out).1 3; have z4 : w2.cell? ⟨w.heap.size, 4, none⟩ = some (.int .i64 0) := (Tx.blk KR2.out).1 4; have z5 : w2.cell? ⟨w.heap.size, 5, none⟩ = some (.slice none 0 0) := (Tx.blk KR2.out).1 5; have fr2 : ∀ i, w2.frozen? ⟨w.heap.size, i, none⟩ = false := (Tx.blk KR2.out).2.1; obtain ⟨ta2, tc2, kg2, _, _⟩ := hP2.blk; rw [HA5.out] at kg2; have eg2 : w2.cell? ⟨g, 1, none⟩ = some (.int .i64 (A5 : Int)) := (Tx.blk kg2).1 1; have fg2 : ∀ i, w2.frozen? ⟨g, i, none⟩ = false := (Tx.blk kg2).2.1; have KG2 := Lib.hid kg2; clear kg2)
  | (go_at_call 287; refine (hPr _ hP0).mono ?_; rintro e w1 h1; rw [HO.out] at h1; obtain ⟨qo, qf, qa, qb, qsa, qsn, qsc, qka, qkn, qkc, rfl, hq1, hP1, hF1⟩ := h1.get; have s1 := hF1.size; simp only [World.size_alloc] at s1 hq1; have hF1' : Qr.Fr g w (w1.alloc (.cells #[.int .i64 qo, .int .i64 qf, .slice qsa qsn qsc, .int .i64 qa, .int .i64 qb, .slice qka qkn qkc] 29)) := (((Qr.Fr.refl g w).alloc _).trans hF1).alloc _; have KR1 : Hid ((w1.alloc (.cells #[.int .i64 qo, .int .i64 qf, .slice qsa qsn qsc, .int .i64 qa, .int .i64 qb, .slice qka qkn qkc] 29)).heap[w.heap.size]? = some (.cells Qr.zeroQ 29 (0, 0))) := Lib.hid (Tx.blk_later ((hF1.block w.heap.size (by omega) (by simp)).trans (heap_alloc_new w _)) (Tx.newb w1 _)); have KQ1 : Hid ((w1.alloc (.cells #[.int .i64 qo, .int .i64 qf, .slice qsa qsn qsc, .int .i64 qa, .int .i64 qb, .slice qka qkn qkc] 29)).heap[w1.heap.size]? = some (.cells #[.int .i64 qo, .int .i64 qf, .slice qsa qsn qsc, .int .i64 qa, .int .i64 qb, .slice qka qkn qkc] 29 (0, 0))) := Lib.hid (heap_alloc_new w1 _); have hP1' : Qr.PS g l r' (w1.alloc (.cells #[.int .i64 qo, .int .i64 qf, .slice qsa qsn qsc, .int .i64 qa, .int .i64 qb, .slice qka qkn qkc] 29)) := hP1.below (Tx.newb w1 _)))
 refine bodyPost_ret (v := .agg #[.int .i64 qo, .int .i64 qf, .slice qsa qsn qsc, .int .i64 qa, .int .i64 qb, .slice qka qkn qkc]) (by simp [results, Tryz.results250, go_sem, z0, z1, z2, z3, z4, z5]) rfl ⟨⟨qo, qf, qsa, qsn, qsc, qa, qb, qka, qkn, qkc⟩, rfl, ?_, ?_, Qr.Fr.put6 hF2 (Nat.le_refl _) _ _ _ _ _ _⟩
 ·exact (hq1.kp ((Qr.Kp.below (Tx.newb w1 _)).trans ((Qr.Kp.below hb2).trans (Qr.Kp.put6 (Qr.Kp.refl _ _) (by omega) _ _ _ _ _ _)))).mono (by omega)
 ·exact Qr.PS.of' hP2 KG2.out (Tx.put6 (Below.refl _ _) (by omega) _ _ _ _ _ _) (List.suffix_refl _) (Qr.far6 KG2.out (show g ≠ w.heap.size by omega) _ _ _ _ _ _) (by rw [HA5.out])
set_option maxHeartbeats 1600000 in
theorem not_none2 (g : Nat) (l r : List Qr.Tok) (w : World) (hP : Qr.PS g l r w) (x : Qr.PR) (hPr : ∀ w, Qr.PS g l r w → Calls Tryz.prog 287 #[.pointer (some ⟨g, 0, none⟩)] w (Qr.Res g l x w)) (q : Qr.Qy) (r' : List Qr.Tok) (ho : x = some (q, r')) (hr' : r' <:+ r) (hi : Qr.isOp Qr.notB r' = true) (y : Qr.PR) (hPr2 : ∀ w, Qr.PS g l r'.tail w → Calls Tryz.prog 287 #[.pointer (some ⟨g, 0, none⟩)] w (Qr.Res g l y w)) (hy : y = none) :
  Calls Tryz.prog 250 #[.pointer (some ⟨g, 0, none⟩)] w fun e w' => e = .panicked [{ v := Qr.wrongP, recovered := false }] ∧ Qr.Fr g w w' := by
 have hgl := hP.lt
 have hll := hP.len
 have hP0 := hP.below (Tx.newb w (.cells Qr.zeroQ 29))
 have HPP := Lib.hid hP; clear hP
 have HO := Lib.hid ho; clear ho
 have hsl := hr'.length_le
 obtain ⟨A5, hA5⟩ : ∃ A5, l.length - r'.length = A5 := ⟨_, rfl⟩
 have hw5 := IntWalk.i64_in ((A5 : Int) + 1) ⟨by omega, by omega⟩
 have HA5 := Lib.hid hA5
 have hte5 := Qr.tail_eats (Qr.isOp_ne hi)
 have hA6 : (A5 : Int) + 1 = ((l.length - r'.tail.length : Nat) : Int) := by
  have h1 := hte5.2
  have h3 := hll
  have h4 := (hr'.trans HPP.out.suf).length_le
  rw [List.length_tail] at h1 ⊢
  omega
 have HA6 := Lib.hid hA6
 have HT5 := Lib.hid hte5
 have HI := Lib.hid hi; clear hi hA5 hA6 hte5
 have HY := Lib.hid hy; clear hy
 go_enter Tryz.func250, Tryz.ntmps250
 go_wp2_with (first
  | (go_at_call 196; refine (is_c g l r' Qr.notB _ hP1').mono ?_; rintro e w2 ⟨rfl, hb2⟩; rw [HI.out]; have s2 := hb2.size; simp only [World.size_alloc] at s2; have KR2 := Lib.hid (Tx.blk_later KR1.out hb2); have KQ2 := Lib.hid (Tx.blk_later KQ1.out hb2); have hF2 := hF1'.trans (.of_below hb2); have hP2 := hP1'.below hb2; have x0 : w2.cell? ⟨w1.heap.size, 0, none⟩ = some (.int .i64 qo) := (Tx.blk KQ2.out).1 0; have x1 : w2.cell? ⟨w1.heap.size, 1, none⟩ = some (.int .i64 qf) := (Tx.blk KQ2.out).1 1; have x2 : w2.cell? ⟨w1.heap.size, 2, none⟩ = some (.slice qsa qsn qsc) := (Tx.blk KQ2.out).1 2; have x3 : w2.cell? ⟨w1.heap.size, 3, none⟩ = some (.int .i64 qa) := (Tx.blk KQ2.out).1 3; have x4 : w2.cell? ⟨w1.heap.size, 4, none⟩ = some (.int .i64 qb) := (Tx.blk KQ2.out).1 4; have x5 : w2.cell? ⟨w1.heap.size, 5, none⟩ = some (.slice qka qkn qkc) := (Tx.blk KQ2.out).1 5; have z0 : w2.cell? ⟨w.heap.size, 0, none⟩ = some (.int .i64 0) := (Tx.blk KR2.out).1 0; have z1 : w2.cell? ⟨w.heap.size, 1, none⟩ = some (.int .i64 0) := (Tx.blk KR2.out).1 1; have z2 : w2.cell? ⟨w.heap.size, 2, none⟩ = some (.slice none 0 0) := (Tx.blk KR2.out).1 2; have z3 : w2.cell? ⟨w.heap.size, 3, none⟩ = some (.int .i64 0) := (Tx.blk KR2.out).1 3; have z4 : w2.cell? ⟨w.heap.size, 4, none⟩ = some (.int .i64 0) := (Tx.blk KR2.out).1 4; have z5 : w2.cell? ⟨w.heap.size, 5, none⟩ = some (.slice none 0 0) := (Tx.blk KR2.out).1 5; have fr2 : ∀ i, w2.frozen? ⟨w.heap.size, i, none⟩ = false := (Tx.blk KR2.out).2.1; obtain ⟨ta2, tc2, kg2, _, _⟩ := hP2.blk; rw [HA5.out] at kg2; have eg2 : w2.cell? ⟨g, 1, none⟩ = some (.int .i64 (A5 : Int)) := (Tx.blk kg2).1 1; have fg2 : ∀ i, w2.frozen? ⟨g, i, none⟩ = false := (Tx.blk kg2).2.1; have KG2 := Lib.hid kg2; clear kg2; have kg3 : (w2.setCell ⟨g, 1, none⟩ (.int .i64 ((A5 : Int) + 1))).heap[g]? = some (.cells #[.slice ta2 l.length tc2, .int .i64 ((A5 : Int) + 1)] 129 (0, 0)) := Qr.blk_set1 KG2.out _; have hF3 : Qr.Fr g w (w2.setCell ⟨g, 1, none⟩ (.int .i64 ((A5 : Int) + 1))) := hF2.set rfl _; have hP3 : Qr.PS g l r'.tail (w2.setCell ⟨g, 1, none⟩ (.int .i64 ((A5 : Int) + 1))) := Qr.PS.of' hP2 KG2.out ((Below.refl g _).setCell (Nat.le_refl g) _) HT5.out.1 kg3 HA6.out; have kR3 : (w2.setCell ⟨g, 1, none⟩ (.int .i64 ((A5 : Int) + 1))).heap[w.heap.size]? = some (.cells Qr.zeroQ 29 (0, 0)) := Tx.blk_far (a := ⟨g, 1, none⟩) KR2.out (show w.heap.size ≠ g by omega) _; have kQ3 : (w2.setCell ⟨g, 1, none⟩ (.int .i64 ((A5 : Int) + 1))).heap[w1.heap.size]? = some (.cells #[.int .i64 qo, .int .i64 qf, .slice qsa qsn qsc, .int .i64 qa, .int .i64 qb, .slice qka qkn qkc] 29 (0, 0)) := Tx.blk_far (a := ⟨g, 1, none⟩) KQ2.out (show w1.heap.size ≠ g by omega) _; have s3 : (w2.setCell ⟨g, 1, none⟩ (.int .i64 ((A5 : Int) + 1))).heap.size = w2.heap.size := (by simp [World.setCell]); clear x0 z0; clear x1 z1; clear x2 z2; clear x3 z3; clear x4 z4; clear x5 z5; clear fr2 kg3)
  | (go_at_call 287; refine (hPr _ hP0).mono ?_; rintro e w1 h1; rw [HO.out] at h1; obtain ⟨qo, qf, qa, qb, qsa, qsn, qsc, qka, qkn, qkc, rfl, hq1, hP1, hF1⟩ := h1.get; have s1 := hF1.size; simp only [World.size_alloc] at s1 hq1; have hF1' : Qr.Fr g w (w1.alloc (.cells #[.int .i64 qo, .int .i64 qf, .slice qsa qsn qsc, .int .i64 qa, .int .i64 qb, .slice qka qkn qkc] 29)) := (((Qr.Fr.refl g w).alloc _).trans hF1).alloc _; have KR1 : Hid ((w1.alloc (.cells #[.int .i64 qo, .int .i64 qf, .slice qsa qsn qsc, .int .i64 qa, .int .i64 qb, .slice qka qkn qkc] 29)).heap[w.heap.size]? = some (.cells Qr.zeroQ 29 (0, 0))) := Lib.hid (Tx.blk_later ((hF1.block w.heap.size (by omega) (by simp)).trans (heap_alloc_new w _)) (Tx.newb w1 _)); have KQ1 : Hid ((w1.alloc (.cells #[.int .i64 qo, .int .i64 qf, .slice qsa qsn qsc, .int .i64 qa, .int .i64 qb, .slice qka qkn qkc] 29)).heap[w1.heap.size]? = some (.cells #[.int .i64 qo, .int .i64 qf, .slice qsa qsn qsc, .int .i64 qa, .int .i64 qb, .slice qka qkn qkc] 29 (0, 0))) := Lib.hid (heap_alloc_new w1 _); have hP1' : Qr.PS g l r' (w1.alloc (.cells #[.int .i64 qo, .int .i64 qf, .slice qsa qsn qsc, .int .i64 qa, .int .i64 qb, .slice qka qkn qkc] 29)) := hP1.below (Tx.newb w1 _)))
 obtain ⟨W3, hW3⟩ : ∃ W3, W3 = (w2.setCell ⟨g, 1, none⟩ (.int .i64 ((A5 : Int) + 1))) := ⟨_, rfl⟩
 rw [← hW3] at hF3 hP3 kR3 kQ3 s3
 rw [← hW3]
 have hK3 : Qr.Kp (w.heap.size + 1) w1 W3 := by rw [hW3]; exact ((Qr.Kp.below (Tx.newb w1 _)).trans (Qr.Kp.below hb2)).set (show g < w.heap.size + 1 by omega) _
 clear hW3
 have x0 : W3.cell? ⟨w1.heap.size, 0, none⟩ = some (.int .i64 qo) := (Tx.blk kQ3).1 0; have x1 : W3.cell? ⟨w1.heap.size, 1, none⟩ = some (.int .i64 qf) := (Tx.blk kQ3).1 1; have x2 : W3.cell? ⟨w1.heap.size, 2, none⟩ = some (.slice qsa qsn qsc) := (Tx.blk kQ3).1 2; have x3 : W3.cell? ⟨w1.heap.size, 3, none⟩ = some (.int .i64 qa) := (Tx.blk kQ3).1 3; have x4 : W3.cell? ⟨w1.heap.size, 4, none⟩ = some (.int .i64 qb) := (Tx.blk kQ3).1 4; have x5 : W3.cell? ⟨w1.heap.size, 5, none⟩ = some (.slice qka qkn qkc) := (Tx.blk kQ3).1 5
 have KQ3 := Lib.hid kQ3
 have KR3 := Lib.hid kR3
 clear kQ3 kR3
 refine wp_region_held_drew (S := (fun w' => w'.cell? ⟨w1.heap.size, 0, none⟩ = some (.int .i64 qo) ∧ w'.cell? ⟨w1.heap.size, 1, none⟩ = some (.int .i64 qf) ∧ w'.cell? ⟨w1.heap.size, 2, none⟩ = some (.slice qsa qsn qsc) ∧ w'.cell? ⟨w1.heap.size, 3, none⟩ = some (.int .i64 qa) ∧ w'.cell? ⟨w1.heap.size, 4, none⟩ = some (.int .i64 qb) ∧ w'.cell? ⟨w1.heap.size, 5, none⟩ = some (.slice qka qkn qkc))) (by kernel_rfl) ?_ (fun hHeld => ?_)
 ·exact ⟨x0, x1, x2, x3, x4, x5⟩
 refine wpAnyH_take (i := 0) (oi := ⟨some 17, _, _, _, _, _⟩) (v := .agg #[.int .i64 qo, .int .i64 qf, .slice qsa qsn qsc, .int .i64 qa, .int .i64 qb, .slice qka qkn qkc]) rfl (by kernel_rfl) (by kernel_rfl) (by kernel_rfl) (fun _ _ _ h => h) (Or.inl ⟨by rfl, ?_⟩) (by assumption) ?_
 ·intro w hSw; (try dsimp only at hSw); go_simp
 simp only [Act.put, List.setIfInBounds_toArray, List.set_cons_zero, List.set_cons_succ]
 refine wpAnyH_take (i := 1) (oi := ⟨some 18, _, _, _, _, _⟩) (v := .pointer (some ⟨g, 0, none⟩)) rfl (by kernel_rfl) (by kernel_rfl) (by kernel_rfl) (fun _ _ _ h => h) (Or.inl ⟨by rfl, ?_⟩) (by assumption) ?_
 ·intro w hSw; (try dsimp only at hSw); go_simp
 simp only [Act.put, List.setIfInBounds_toArray, List.set_cons_zero, List.set_cons_succ]
 refine wpAnyH_ready (rs := [2]) (by kernel_rfl) (by simp) ?_
 refine AllReadyH.cons (o := ⟨some 19, _, _, _, _, _⟩) rfl (fun K hK => ?_) AllReadyH.nil
 go_simp
 go_split_ands
 go_at_call 287
 refine (hPr2 _ (hP3.below ((Below.refl W3.heap.size W3).drew))).mono ?_
 rintro e w5 h5
 rw [HY.out] at h5
 obtain ⟨rfl, hF5⟩ := h5.bad
 have hF5' : Qr.Fr g w w5 := hF3.trans (((Qr.Fr.refl g W3).drew).trans hF5)
 exact ⟨rfl, rfl, hF5'⟩
namespace Qr
theorem fa_new {w : World} {K : Nat} {T : List QT} {t : TypeId} (h : w.heap[K]? = some (.cells (T.flatMap encQ).toArray t (0, 0))) (hm : T.length ≤ maxLen) : Br.FA encQ 6 w (some ⟨K, 0, none⟩) T.length T := by
 obtain ⟨c, _, hl⟩ := Tx.blk h
 refine ⟨Nat.le_refl _, hm, K, 0, fun _ => ⟨rfl, hl⟩, fun j i x u hx hu => ?_⟩
 have hi : i < 6 := by have := (List.getElem?_eq_some_iff.1 hu).1; rw [encQ_len] at this; exact this
 rw [Nat.zero_add, c, List.getElem?_toArray, Br.flat_at encQ 6 encQ_len T j i x hx hi, hu]
end Qr
set_option maxHeartbeats 1600000 in
theorem not_two (g : Nat) (l r : List Qr.Tok) (w : World) (hP : Qr.PS g l r w) (x : Qr.PR) (hPr : ∀ w, Qr.PS g l r w → Calls Tryz.prog 287 #[.pointer (some ⟨g, 0, none⟩)] w (Qr.Res g l x w)) (q : Qr.Qy) (r' : List Qr.Tok) (ho : x = some (q, r')) (hr' : r' <:+ r) (hi : Qr.isOp Qr.notB r' = true) (y : Qr.PR) (hPr2 : ∀ w, Qr.PS g l r'.tail w → Calls Tryz.prog 287 #[.pointer (some ⟨g, 0, none⟩)] w (Qr.Res g l y w)) (q2 : Qr.Qy) (r2 : List Qr.Tok) (hy : y = some (q2, r2)) :
  Calls Tryz.prog 250 #[.pointer (some ⟨g, 0, none⟩)] w fun e w' => Qr.Res g l (some (.mk 7 0 [] 0 0 [q, q2], r2)) w e w' := by
 have hgl := hP.lt
 have hll := hP.len
 have hP0 := hP.below (Tx.newb w (.cells Qr.zeroQ 29))
 have HPP := Lib.hid hP; clear hP
 have HO := Lib.hid ho; clear ho
 have hsl := hr'.length_le
 obtain ⟨A5, hA5⟩ : ∃ A5, l.length - r'.length = A5 := ⟨_, rfl⟩
 have hw5 := IntWalk.i64_in ((A5 : Int) + 1) ⟨by omega, by omega⟩
 have HA5 := Lib.hid hA5
 have hte5 := Qr.tail_eats (Qr.isOp_ne hi)
 have hA6 : (A5 : Int) + 1 = ((l.length - r'.tail.length : Nat) : Int) := by
  have h1 := hte5.2
  have h3 := hll
  have h4 := (hr'.trans HPP.out.suf).length_le
  rw [List.length_tail] at h1 ⊢
  omega
 have HA6 := Lib.hid hA6
 have HT5 := Lib.hid hte5
 have HI := Lib.hid hi; clear hi hA5 hA6 hte5
 have HY := Lib.hid hy; clear hy
 go_enter Tryz.func250, Tryz.ntmps250
 go_wp2_with (first
  | (go_at_call 196; refine (is_c g l r' Qr.notB _ hP1').mono ?_; rintro e w2 ⟨rfl, hb2⟩; rw [HI.out]; have s2 := hb2.size; simp only [World.size_alloc] at s2; have KR2 := Lib.hid (Tx.blk_later KR1.out hb2); have KQ2 := Lib.hid (Tx.blk_later KQ1.out hb2); have hF2 := hF1'.trans (.of_below hb2); have hP2 := hP1'.below hb2; have x0 : w2.cell? ⟨w1.heap.size, 0, none⟩ = some (.int .i64 qo) := (Tx.blk KQ2.out).1 0; have x1 : w2.cell? ⟨w1.heap.size, 1, none⟩ = some (.int .i64 qf) := (Tx.blk KQ2.out).1 1; have x2 : w2.cell? ⟨w1.heap.size, 2, none⟩ = some (.slice qsa qsn qsc) := (Tx.blk KQ2.out).1 2; have x3 : w2.cell? ⟨w1.heap.size, 3, none⟩ = some (.int .i64 qa) := (Tx.blk KQ2.out).1 3; have x4 : w2.cell? ⟨w1.heap.size, 4, none⟩ = some (.int .i64 qb) := (Tx.blk KQ2.out).1 4; have x5 : w2.cell? ⟨w1.heap.size, 5, none⟩ = some (.slice qka qkn qkc) := (Tx.blk KQ2.out).1 5; have z0 : w2.cell? ⟨w.heap.size, 0, none⟩ = some (.int .i64 0) := (Tx.blk KR2.out).1 0; have z1 : w2.cell? ⟨w.heap.size, 1, none⟩ = some (.int .i64 0) := (Tx.blk KR2.out).1 1; have z2 : w2.cell? ⟨w.heap.size, 2, none⟩ = some (.slice none 0 0) := (Tx.blk KR2.out).1 2; have z3 : w2.cell? ⟨w.heap.size, 3, none⟩ = some (.int .i64 0) := (Tx.blk KR2.out).1 3; have z4 : w2.cell? ⟨w.heap.size, 4, none⟩ = some (.int .i64 0) := (Tx.blk KR2.out).1 4; have z5 : w2.cell? ⟨w.heap.size, 5, none⟩ = some (.slice none 0 0) := (Tx.blk KR2.out).1 5; have fr2 : ∀ i, w2.frozen? ⟨w.heap.size, i, none⟩ = false := (Tx.blk KR2.out).2.1; obtain ⟨ta2, tc2, kg2, _, _⟩ := hP2.blk; rw [HA5.out] at kg2; have eg2 : w2.cell? ⟨g, 1, none⟩ = some (.int .i64 (A5 : Int)) := (Tx.blk kg2).1 1; have fg2 : ∀ i, w2.frozen? ⟨g, i, none⟩ = false := (Tx.blk kg2).2.1; have KG2 := Lib.hid kg2; clear kg2; have kg3 : (w2.setCell ⟨g, 1, none⟩ (.int .i64 ((A5 : Int) + 1))).heap[g]? = some (.cells #[.slice ta2 l.length tc2, .int .i64 ((A5 : Int) + 1)] 129 (0, 0)) := Qr.blk_set1 KG2.out _; have hF3 : Qr.Fr g w (w2.setCell ⟨g, 1, none⟩ (.int .i64 ((A5 : Int) + 1))) := hF2.set rfl _; have hP3 : Qr.PS g l r'.tail (w2.setCell ⟨g, 1, none⟩ (.int .i64 ((A5 : Int) + 1))) := Qr.PS.of' hP2 KG2.out ((Below.refl g _).setCell (Nat.le_refl g) _) HT5.out.1 kg3 HA6.out; have kR3 : (w2.setCell ⟨g, 1, none⟩ (.int .i64 ((A5 : Int) + 1))).heap[w.heap.size]? = some (.cells Qr.zeroQ 29 (0, 0)) := Tx.blk_far (a := ⟨g, 1, none⟩) KR2.out (show w.heap.size ≠ g by omega) _; have kQ3 : (w2.setCell ⟨g, 1, none⟩ (.int .i64 ((A5 : Int) + 1))).heap[w1.heap.size]? = some (.cells #[.int .i64 qo, .int .i64 qf, .slice qsa qsn qsc, .int .i64 qa, .int .i64 qb, .slice qka qkn qkc] 29 (0, 0)) := Tx.blk_far (a := ⟨g, 1, none⟩) KQ2.out (show w1.heap.size ≠ g by omega) _; have s3 : (w2.setCell ⟨g, 1, none⟩ (.int .i64 ((A5 : Int) + 1))).heap.size = w2.heap.size := (by simp [World.setCell]); clear x0 z0; clear x1 z1; clear x2 z2; clear x3 z3; clear x4 z4; clear x5 z5; clear fr2 kg3)
  | (go_at_call 287; refine (hPr _ hP0).mono ?_; rintro e w1 h1; rw [HO.out] at h1; obtain ⟨qo, qf, qa, qb, qsa, qsn, qsc, qka, qkn, qkc, rfl, hq1, hP1, hF1⟩ := h1.get; have s1 := hF1.size; simp only [World.size_alloc] at s1 hq1; have hF1' : Qr.Fr g w (w1.alloc (.cells #[.int .i64 qo, .int .i64 qf, .slice qsa qsn qsc, .int .i64 qa, .int .i64 qb, .slice qka qkn qkc] 29)) := (((Qr.Fr.refl g w).alloc _).trans hF1).alloc _; have KR1 : Hid ((w1.alloc (.cells #[.int .i64 qo, .int .i64 qf, .slice qsa qsn qsc, .int .i64 qa, .int .i64 qb, .slice qka qkn qkc] 29)).heap[w.heap.size]? = some (.cells Qr.zeroQ 29 (0, 0))) := Lib.hid (Tx.blk_later ((hF1.block w.heap.size (by omega) (by simp)).trans (heap_alloc_new w _)) (Tx.newb w1 _)); have KQ1 : Hid ((w1.alloc (.cells #[.int .i64 qo, .int .i64 qf, .slice qsa qsn qsc, .int .i64 qa, .int .i64 qb, .slice qka qkn qkc] 29)).heap[w1.heap.size]? = some (.cells #[.int .i64 qo, .int .i64 qf, .slice qsa qsn qsc, .int .i64 qa, .int .i64 qb, .slice qka qkn qkc] 29 (0, 0))) := Lib.hid (heap_alloc_new w1 _); have hP1' : Qr.PS g l r' (w1.alloc (.cells #[.int .i64 qo, .int .i64 qf, .slice qsa qsn qsc, .int .i64 qa, .int .i64 qb, .slice qka qkn qkc] 29)) := hP1.below (Tx.newb w1 _)))
 obtain ⟨W3, hW3⟩ : ∃ W3, W3 = (w2.setCell ⟨g, 1, none⟩ (.int .i64 ((A5 : Int) + 1))) := ⟨_, rfl⟩
 rw [← hW3] at hF3 hP3 kR3 kQ3 s3
 rw [← hW3]
 have hK3 : Qr.Kp (w.heap.size + 1) w1 W3 := by rw [hW3]; exact ((Qr.Kp.below (Tx.newb w1 _)).trans (Qr.Kp.below hb2)).set (show g < w.heap.size + 1 by omega) _
 clear hW3
 have x0 : W3.cell? ⟨w1.heap.size, 0, none⟩ = some (.int .i64 qo) := (Tx.blk kQ3).1 0; have x1 : W3.cell? ⟨w1.heap.size, 1, none⟩ = some (.int .i64 qf) := (Tx.blk kQ3).1 1; have x2 : W3.cell? ⟨w1.heap.size, 2, none⟩ = some (.slice qsa qsn qsc) := (Tx.blk kQ3).1 2; have x3 : W3.cell? ⟨w1.heap.size, 3, none⟩ = some (.int .i64 qa) := (Tx.blk kQ3).1 3; have x4 : W3.cell? ⟨w1.heap.size, 4, none⟩ = some (.int .i64 qb) := (Tx.blk kQ3).1 4; have x5 : W3.cell? ⟨w1.heap.size, 5, none⟩ = some (.slice qka qkn qkc) := (Tx.blk kQ3).1 5
 have KQ3 := Lib.hid kQ3
 have KR3 := Lib.hid kR3
 clear kQ3 kR3
 go_region_with (go_at_call 287; refine (hPr2 _ (hP3.below ((Below.refl W3.heap.size W3).drew))).mono ?_; rintro e w5 h5; rw [HY.out] at h5; obtain ⟨po, pf, pa, pb, psa, psn, psc, pka, pkn, pkc, rfl, hq5, hP5, hF5⟩ := h5.get; have s5 := hF5.size; have s5d : W3.heap.size ≤ w5.heap.size := s5; have hF53 : Qr.Fr g W3 w5 := ((Qr.Fr.refl g W3).drew).trans hF5; have hF5' : Qr.Fr g w w5 := hF3.trans hF53; have kQ5 := (hF53.block w1.heap.size (by omega) (Array.getElem?_eq_some_iff.1 KQ3.out).1).trans KQ3.out; have kR5 := (hF53.block w.heap.size (by omega) (Array.getElem?_eq_some_iff.1 KR3.out).1).trans KR3.out; have v0 : w5.cell? ⟨w1.heap.size, 0, none⟩ = some (.int .i64 qo) := (Tx.blk kQ5).1 0; have v1 : w5.cell? ⟨w1.heap.size, 1, none⟩ = some (.int .i64 qf) := (Tx.blk kQ5).1 1; have v2 : w5.cell? ⟨w1.heap.size, 2, none⟩ = some (.slice qsa qsn qsc) := (Tx.blk kQ5).1 2; have v3 : w5.cell? ⟨w1.heap.size, 3, none⟩ = some (.int .i64 qa) := (Tx.blk kQ5).1 3; have v4 : w5.cell? ⟨w1.heap.size, 4, none⟩ = some (.int .i64 qb) := (Tx.blk kQ5).1 4; have v5 : w5.cell? ⟨w1.heap.size, 5, none⟩ = some (.slice qka qkn qkc) := (Tx.blk kQ5).1 5; have kR6 : ∀ o, (w5.alloc o).heap[w.heap.size]? = some (.cells Qr.zeroQ 29 (0, 0)) := (fun o => Tx.blk_later kR5 (Tx.newb w5 o)); have y0 : ∀ o, (w5.alloc o).cell? ⟨w.heap.size, 0, none⟩ = some (.int .i64 0) := (fun o => (Tx.blk (kR6 o)).1 0); have y1 : ∀ o, (w5.alloc o).cell? ⟨w.heap.size, 1, none⟩ = some (.int .i64 0) := (fun o => (Tx.blk (kR6 o)).1 1); have y2 : ∀ o, (w5.alloc o).cell? ⟨w.heap.size, 2, none⟩ = some (.slice none 0 0) := (fun o => (Tx.blk (kR6 o)).1 2); have y3 : ∀ o, (w5.alloc o).cell? ⟨w.heap.size, 3, none⟩ = some (.int .i64 0) := (fun o => (Tx.blk (kR6 o)).1 3); have y4 : ∀ o, (w5.alloc o).cell? ⟨w.heap.size, 4, none⟩ = some (.int .i64 0) := (fun o => (Tx.blk (kR6 o)).1 4); have y5 : ∀ o, (w5.alloc o).cell? ⟨w.heap.size, 5, none⟩ = some (.slice none 0 0) := (fun o => (Tx.blk (kR6 o)).1 5); have fr6 : ∀ o i, (w5.alloc o).frozen? ⟨w.heap.size, i, none⟩ = false := (fun o => (Tx.blk (kR6 o)).2.1); clear kQ5 kR5 kR6)
 all_goals
  go_wp2
  refine bodyPost_ret (v := .agg #[.int .i64 7, .int .i64 0, .slice none 0 0, .int .i64 0, .int .i64 0, .slice (some ⟨w5.heap.size, 0, none⟩) 2 2]) (by simp [results, Tryz.results250, go_sem, y0, y1, y2, y3, y4, y5]) rfl ?_
  obtain ⟨W6, hW6⟩ : ∃ W6, W6 = w5.alloc (.cells #[.int .i64 qo, .int .i64 qf, .slice qsa qsn qsc, .int .i64 qa, .int .i64 qb, .slice qka qkn qkc, .int .i64 po, .int .i64 pf, .slice psa psn psc, .int .i64 pa, .int .i64 pb, .slice pka pkn pkc] 29) := ⟨_, rfl⟩
  have hblk : W6.heap[w5.heap.size]? = some (.cells ([(⟨qo, qf, qsa, qsn, qsc, qa, qb, qka, qkn, qkc⟩ : Qr.QT), (⟨po, pf, psa, psn, psc, pa, pb, pka, pkn, pkc⟩ : Qr.QT)].flatMap Qr.encQ).toArray 29 (0, 0)) := by
   rw [hW6]
   exact heap_alloc_new w5 _
  have hK6 : Qr.Kp (w.heap.size + 1) w5 W6 := by rw [hW6]; exact Qr.Kp.below (Tx.newb _ _)
  have hB6 : Below w5.heap.size w5 W6 := by rw [hW6]; exact Tx.newb _ _
  have hF6 : Qr.Fr g w W6 := by rw [hW6]; exact hF5'.alloc _
  rw [← hW6]
  clear hW6
  have hK1 := hK3.trans ((Qr.Kp.fr hF53 (show g < w.heap.size + 1 by omega)).trans hK6)
  have hdd : W3.drew.heap.size = W3.heap.size := rfl
  have hq1' := (hq1.kp (Qr.Kp.put6 hK1 (show w.heap.size < w.heap.size + 1 by omega) (.int .i64 7) (.int .i64 0) (.slice none 0 0) (.int .i64 0) (.int .i64 0) (.slice (some ⟨w5.heap.size, 0, none⟩) 2 2))).mono (show w.heap.size ≤ w.heap.size + 1 by omega)
  have hq5' := (hq5.kp (Qr.Kp.put6 (hK6.mono (show w.heap.size + 1 ≤ W3.drew.heap.size by omega)) (show w.heap.size < W3.drew.heap.size by omega) (.int .i64 7) (.int .i64 0) (.slice none 0 0) (.int .i64 0) (.int .i64 0) (.slice (some ⟨w5.heap.size, 0, none⟩) 2 2))).mono (show w.heap.size ≤ W3.drew.heap.size by omega)
  have hfa := Qr.fa_new (Qr.far6 hblk (show w5.heap.size ≠ w.heap.size by omega) (.int .i64 7) (.int .i64 0) (.slice none 0 0) (.int .i64 0) (.int .i64 0) (.slice (some ⟨w5.heap.size, 0, none⟩) 2 2)) (by show 2 ≤ maxLen; unfold maxLen; omega)
  have hql := (Qr.QL.one (t := ⟨qo, qf, qsa, qsn, qsc, qa, qb, qka, qkn, qkc⟩) hq1').app (Qr.QL.one (t := ⟨po, pf, psa, psn, psc, pa, pb, pka, pkn, pkc⟩) hq5')
  have hka := Qr.KA.of_ts hql hfa (fun _ ad e9 => by cases e9; simp only; omega)
  obtain ⟨ta6, tc6, kg6, _, _⟩ := hP5.blk
  have kg7 := Tx.blk_later kg6 hB6
  exact ⟨⟨7, 0, none, 0, 0, 0, 0, some ⟨w5.heap.size, 0, none⟩, 2, 2⟩, rfl, Qr.QC.of_kids (ws := []) (.inl ⟨rfl, _, _, rfl⟩) (fun h => absurd rfl h) hka, Qr.PS.of' hP5 kg6 (Tx.put6 (hB6.mono (show g ≤ w5.heap.size by omega)) (show g ≤ w.heap.size by omega) _ _ _ _ _ _) (List.suffix_refl _) (Qr.far6 kg7 (show g ≠ w.heap.size by omega) _ _ _ _ _ _) rfl, Qr.Fr.put6 hF6 (Nat.le_refl _) _ _ _ _ _ _⟩
theorem not_c (g n : Nat) (l : List Qr.Tok) (hPr : ∀ (r : List Qr.Tok) (w : World), 8 * r.length + 4 ≤ n → Qr.PS g l r w → Calls Tryz.prog 287 #[.pointer (some ⟨g, 0, none⟩)] w (Qr.Res g l (Qr.pPrim true n r) w))
  (r : List Qr.Tok) (w : World) (hn : 8 * r.length + 5 ≤ n + 1) (hP : Qr.PS g l r w) :
  Calls Tryz.prog 250 #[.pointer (some ⟨g, 0, none⟩)] w (Qr.Res g l (Qr.pNot true (n + 1) r) w) := by
 have h1 := fun w h => hPr r w (by omega) h
 have he := (Qr.eats_all true n).2.2.2.2.2 r
 have e0 : Qr.pNot true (n + 1) r = match Qr.pPrim true n r with
   | none => none
   | some (q, r') => if Qr.isOp Qr.notB r' = true then match Qr.pPrim true n r'.tail with
     | none => none
     | some (q2, r2) => some (.mk 7 0 [] 0 0 [q, q2], r2)
    else some (q, r') := by rw [Qr.pNot]; rfl
 cases ho : Qr.pPrim true n r with
 | none =>
  rw [ho] at h1 e0
  rw [e0]
  exact not_none g l r w hP none h1 rfl
 | some p =>
  obtain ⟨q, r'⟩ := p
  rw [ho] at h1 e0
  have hs := he q r' ho
  by_cases hi : Qr.isOp Qr.notB r' = true
  ·have hte := Qr.tail_eats (Qr.isOp_ne hi)
   have h2 := fun w h => hPr r'.tail w (by have := hs.2; have := hte.2; omega) h
   cases hy : Qr.pPrim true n r'.tail with
   | none =>
    rw [hy] at h2
    rw [show Qr.pNot true (n + 1) r = none by rw [e0]; simp only; rw [if_pos hi, hy]]
    exact not_none2 g l r w hP _ h1 q r' rfl hs.1 hi none h2 rfl
   | some p2 =>
    obtain ⟨q2, r2⟩ := p2
    rw [hy] at h2
    rw [show Qr.pNot true (n + 1) r = some (.mk 7 0 [] 0 0 [q, q2], r2) by rw [e0]; simp only; rw [if_pos hi, hy]]
    exact not_two g l r w hP _ h1 q r' rfl hs.1 hi _ h2 q2 r2 rfl
  ·rw [show Qr.pNot true (n + 1) r = some (q, r') by rw [e0]; simp only; rw [if_neg hi]]
   exact not_plain g l r w hP _ h1 q r' rfl hs.1 (by simpa using hi)
end Go.Proofs.YtlakomilichhnaaGreatDoor
namespace Go.Proofs.YtlakomilichhnaaGreatDoor
open Go.RowKit
set_option maxRecDepth 100000
namespace Qr
def Held (base : Nat) (w : World) (own : Option Nat) (k : Qy) (t : QT) : Prop :=
 ∃ B w0, QC B w0 k (encQ t) ∧ Kp B w0 w ∧ (∀ b, own = some b → b < B ∨ w0.heap.size ≤ b) ∧ base ≤ B
def HL (base : Nat) (w : World) (own : Option Nat) (ks : List Qy) (T : List QT) : Prop := T.length = ks.length ∧ ∀ (j : Nat) k t, ks[j]? = some k → T[j]? = some t → Held base w own k t
theorem HL.fr {g base : Nat} {w w' : World} {own : Option Nat} {ks : List Qy} {T : List QT} (h : HL base w own ks T) (hF : Fr g w w') (hg : g < base) : HL base w' own ks T :=
 ⟨h.1, fun j k t h1 h2 => by
  obtain ⟨B, w0, a, b, c, d⟩ := h.2 j k t h1 h2
  exact ⟨B, w0, a, b.trans (Kp.fr hF (by omega)), c, d⟩⟩
theorem HL.grown {base : Nat} {w w' : World} {own own' : Option Nat} {ks : List Qy} {T : List QT} (h : HL base w own ks T) (hg : w.grownBy w' own) (ho : own' = own ∨ own' = some w.heap.size) : HL base w' own' ks T :=
 ⟨h.1, fun j k t h1 h2 => by
  obtain ⟨B, w0, a, b, c, d⟩ := h.2 j k t h1 h2
  refine ⟨B, w0, a, ⟨Nat.le_trans b.size hg.size, fun i i1 i2 => ?_⟩, fun x hx => ?_, d⟩
  ·exact (hg.block i (Nat.lt_of_lt_of_le i2 b.size) (fun e => by have := c i e.symm; omega)).trans (b.block i i1 i2)
  ·rcases ho with ho | ho
   ·exact c x (by rw [← ho]; exact hx)
   ·rw [ho] at hx
    injection hx with hx
    have := b.size
    omega⟩
theorem HL.one' {base B : Nat} {w0 w : World} {own : Option Nat} {k : Qy} {t : QT} (h : QC B w0 k (encQ t)) (hK : Kp B w0 w) (hb : base ≤ B) (ho : ∀ b, own = some b → b < B ∨ w0.heap.size ≤ b) : HL base w own [k] [t] := by
 refine ⟨rfl, fun j k2 t2 h1 h2 => ?_⟩
 match j, h1, h2 with
 | 0, h1, h2 => injection h1 with h1; injection h2 with h2; rw [← h1, ← h2]; exact ⟨B, w0, h, hK, ho, hb⟩
 | j + 1, h1, _ => simp at h1
theorem HL.app {base : Nat} {w : World} {own : Option Nat} {ks ks2 : List Qy} {T T2 : List QT} (h : HL base w own ks T) (h2 : HL base w own ks2 T2) : HL base w own (ks ++ ks2) (T ++ T2) := by
 refine ⟨by rw [List.length_append, List.length_append, h.1, h2.1], fun j k t hk ht => ?_⟩
 by_cases hj : j < ks.length
 ·rw [List.getElem?_append_left hj] at hk
  rw [List.getElem?_append_left (by rw [h.1]; exact hj)] at ht
  exact h.2 j k t hk ht
 ·rw [List.getElem?_append_right (by omega)] at hk
  rw [List.getElem?_append_right (by rw [h.1]; omega), h.1] at ht
  exact h2.2 _ k t hk ht
theorem HL.ql {base : Nat} {w : World} {own : Option Nat} {ks : List Qy} {T : List QT} (h : HL base w own ks T) : QL base w ks T :=
 ⟨h.1, fun j k t h1 h2 => by
  obtain ⟨B, w0, a, b, _, d⟩ := h.2 j k t h1 h2
  exact (a.kp b).mono d⟩
theorem HL.ka {base e : Nat} {w : World} {v : Value} {ks : List Qy} {T : List QT} (h : HL base w v.ownBlock ks T) (ho : w.ownsRow base e 6 v T.length (T.flatMap encQ)) : ∃ a c, v = .slice a ks.length c ∧ KA base w a c ks := by
 obtain ⟨a, c, e1, hf, hb⟩ := Br.FA.of_own encQ_len ho rfl
 exact ⟨a, c, by rw [← h.1]; exact e1, KA.of_ts h.ql hf (fun _ ad had => hb ad had)⟩
theorem PS.low {g : Nat} {l r : List Tok} {w w' : World} (h : PS g l r w) (hB : Below (g + 1) w w') : PS g l r w' := by
 obtain ⟨ta, tc, kg, _, _⟩ := h.blk
 exact h.of' kg (hB.mono (by omega)) (List.suffix_refl _) ((hB.block g (by omega)).trans kg) rfl
def atOf (g : Nat) (w : World) : Nat := match w.cell? ⟨g, 1, none⟩ with
 | some (.int _ n) => n.toNat
 | _ => 0
theorem PS.at_ {g : Nat} {l r : List Tok} {w : World} (h : PS g l r w) : atOf g w = l.length - r.length := by
 obtain ⟨_, _, _, h1, _⟩ := h.cells
 unfold atOf
 rw [h1]
 simp
theorem nodesL_flat (op : Int) : ∀ l : List Qy, nodesL (l.flatMap (flat op)) ≤ nodesL l
 | [] => by simp [nodesL]
 | .mk o f ws a b ks :: r => by
  have h1 := nodesL_flat op r
  rw [List.flatMap_cons, nodesL_app, nodesL]
  have h2 : nodesL (flat op (.mk o f ws a b ks)) ≤ nodes (.mk o f ws a b ks) := by
   unfold flat
   split
   ·simp only [Qy.ks, nodes]; omega
   ·simp only [nodesL]; omega
  omega
theorem joined_nodes (op : Int) (l : List Qy) (h : l ≠ []) : nodes (joined op l) + 1 ≤ nodesL l + l.length := by
 by_cases h1 : l.length = 1
 ·match l, h1 with
  | [x], _ => simp only [joined_one, nodesL, List.length_cons, List.length_nil]; omega
 ·rw [joined_many op l h1]
  have := nodesL_flat op l
  have hl : 2 ≤ l.length := by
   cases l with
   | nil => exact absurd rfl h
   | cons x r => cases r with
    | nil => simp at h1
    | cons y s => simp
  simp only [nodes]
  omega
def Nb (r : List Tok) (x : PR) : Prop := ∀ q r', x = some (q, r') → nodes q + 1 + 2 * r'.length ≤ 2 * r.length
theorem Nb.leaf {r : List Tok} {x : PR} (h : Eats r x) (hn : ∀ q r', x = some (q, r') → nodes q = 1) : Nb r x := fun q r' e => by
 have := (h q r' e).2
 have := hn q r' e
 omega
theorem leaf_n (o f a b : Int) (ws : List ByteArray) : nodes (.mk o f ws a b []) = 1 := by simp [nodes, nodesL]
theorem years_leaf (st : Bool) (r : List Tok) : ∀ q r', pYears st r = some (q, r') → nodes q = 1 := by
 intro q r' h
 unfold pYears at h
 repeat' split at h
 all_goals first | (cases h; done) | (injection h with h; injection h with h _; rw [← h]; exact leaf_n _ _ _ _ _)
theorem term_leaf (st : Bool) (f : Int) (r : List Tok) : ∀ q r', pTerm st f r = some (q, r') → nodes q = 1 := by
 intro q r' h
 unfold pTerm at h
 repeat' split at h
 all_goals first | (cases h; done) | (injection h with h; injection h with h _; rw [← h]; exact leaf_n _ _ _ _ _)
theorem flat_leaf (st : Bool) (r : List Tok) : ∀ q r', pFlat st r = some (q, r') → nodes q = 1 := by
 intro q r' h
 unfold pFlat at h
 repeat' split at h
 all_goals first | (cases h; done) | exact years_leaf _ _ _ _ h | exact term_leaf _ _ _ _ _ h
theorem nodes_all (st : Bool) : ∀ n, (∀ r, Nb r (pOr st n r)) ∧ (∀ acc r q r', acc ≠ [] → lOr st n acc r = some (q, r') → nodes q + 1 + 2 * r'.length ≤ nodesL acc + acc.length + 2 * r.length) ∧ (∀ r, Nb r (pAnd st n r)) ∧ (∀ acc r q r', acc ≠ [] → lAnd st n acc r = some (q, r') → nodes q + 1 + 2 * r'.length ≤ nodesL acc + acc.length + 2 * r.length) ∧ (∀ r, Nb r (pNot st n r)) ∧ (∀ r, Nb r (pPrim st n r))
 | 0 => ⟨fun r q r' h => by simp [pOr] at h, fun _ _ _ _ _ h => by simp [lOr] at h, fun r q r' h => by simp [pAnd] at h, fun _ _ _ _ _ h => by simp [lAnd] at h, fun r q r' h => by simp [pNot] at h, fun r q r' h => by simp [pPrim] at h⟩
 | n + 1 => by
  obtain ⟨h1, h2, h3, h4, h5, h6⟩ := nodes_all st n
  have app : ∀ (acc : List Qy) (q : Qy), nodesL (acc ++ [q]) + (acc ++ [q]).length = nodesL acc + acc.length + nodes q + 1 := fun acc q => by
   rw [nodesL_app, List.length_append]
   simp only [nodesL, List.length_cons, List.length_nil]
   omega
  refine ⟨fun r q r' h => ?_, fun acc r q r' hne h => ?_, fun r q r' h => ?_, fun acc r q r' hne h => ?_, fun r q r' h => ?_, fun r q r' h => ?_⟩
  ·unfold pOr at h
   split at h
   ·cases h
   ·rename_i q1 r1 he
    have a := h3 r q1 r1 he
    have b := h2 [q1] r1 q r' (by simp) h
    simp only [nodesL, List.length_cons, List.length_nil] at b
    omega
  ·unfold lOr at h
   split at h
   ·rename_i ho
    have ht := (tail_eats (isOp_ne ho)).2
    split at h
    ·cases h
    ·rename_i q1 r1 he
     have a := h3 r.tail q1 r1 he
     have b := h2 (acc ++ [q1]) r1 q r' (by simp) h
     rw [app] at b
     omega
   ·injection h with h; injection h with h h'; rw [← h, ← h']
    have := joined_nodes 6 acc hne
    omega
  ·unfold pAnd at h
   split at h
   ·cases h
   ·rename_i q1 r1 he
    have a := h5 r q1 r1 he
    have b := h4 [q1] r1 q r' (by simp) h
    simp only [nodesL, List.length_cons, List.length_nil] at b
    omega
  ·unfold lAnd at h
   split at h
   ·rename_i ho
    have ht := (tail_eats (isOp_ne ho)).2
    split at h
    ·cases h
    ·rename_i q1 r1 he
     have a := h5 r.tail q1 r1 he
     have b := h4 (acc ++ [q1]) r1 q r' (by simp) h
     rw [app] at b
     omega
   ·split at h
    ·split at h
     ·cases h
     ·rename_i q1 r1 he
      have a := h5 r q1 r1 he
      have b := h4 (acc ++ [q1]) r1 q r' (by simp) h
      rw [app] at b
      omega
    ·injection h with h; injection h with h h'; rw [← h, ← h']
     have := joined_nodes 5 acc hne
     omega
  ·unfold pNot at h
   split at h
   ·cases h
   ·rename_i q1 r1 he
    have a := h6 r q1 r1 he
    split at h
    ·rename_i ho
     have ht := (tail_eats (isOp_ne ho)).2
     split at h
     ·cases h
     ·rename_i q2 r2 he2
      have b := h6 _ _ _ he2
      injection h with h; injection h with h h'; rw [← h, ← h']
      simp only [nodes, nodesL]
      omega
    ·injection h with h; injection h with h h'; rw [← h, ← h']
     exact a
  ·unfold pPrim at h
   split at h
   ·rename_i hk
    have ht := (tail_eats (r := r) (by rw [hk]; decide)).2
    split at h
    ·cases h
    ·rename_i q1 r1 he
     have a := h1 _ _ _ he
     split at h
     ·rename_i h41
      have hc := (tail_eats (r := r1) (by rw [h41]; decide)).2
      injection h with h; injection h with h h'; rw [← h, ← h']
      omega
     ·cases h
   ·exact Nb.leaf (eats_flat st r) (flat_leaf st r) q r' h
end Qr
theorem joined_c (B : Nat) (op : Int) (l : List Qr.Qy) (a : Option Addr) (c : Nat) (w : World) (hK : Qr.KA B w a c l) (hn : Qr.nodesL l ≤ 1000000) (hBw : B ≤ w.heap.size) :
  Calls Tryz.prog 197 #[.int .i64 op, .slice a l.length c] w fun e w' => ∃ t, e = .returned (.agg (Qr.encQ t).toArray) ∧ Qr.QC B w' (Qr.joined op l) (Qr.encQ t) ∧ Below w.heap.size w w' := by
 by_cases h1 : l.length = 1
 ·match l, h1, hK with
  | [x], _, hK => exact joined_1 B op x a c w hK
 ·exact joined_m B op l a c w hK h1 hn hBw
end Go.Proofs.YtlakomilichhnaaGreatDoor
namespace Go.Proofs.YtlakomilichhnaaGreatDoor
open Go.RowKit
set_option maxRecDepth 100000
attribute [local go_sem] Qr.run_tok0 Qr.run_tok1 Qr.run_tok2
set_option maxHeartbeats 6400000 in
theorem and_c (g n : Nat) (l : List Qr.Tok) (hl : l.length ≤ 400000) (hSub : ∀ (m : Nat) (r : List Qr.Tok) (w : World), m ≤ n → 8 * r.length + 5 ≤ m → Qr.PS g l r w → Calls Tryz.prog 250 #[.pointer (some ⟨g, 0, none⟩)] w (Qr.Res g l (Qr.pNot true m r) w))
  (r : List Qr.Tok) (w : World) (hn : 8 * r.length + 6 ≤ n + 1) (hP : Qr.PS g l r w) :
  Calls Tryz.prog 195 #[.pointer (some ⟨g, 0, none⟩)] w (Qr.Res g l (Qr.pAnd true (n + 1) r) w) := by
 obtain ⟨i0, hi0, hz0, hz1, hz2⟩ := info_parts info_qy
 have HI := Lib.hid hi0; clear hi0
 have hgl := hP.lt
 have hrl := hP.suf.length_le
 have hmx : maxLen = 9223372036854775807 := rfl
 have hP0 := hP.below (Tx.newb w (.cells Qr.zeroQ 29))
 have h1 := fun w h => hSub n r w (Nat.le_refl _) (by omega) h
 have he := (Qr.eats_all true n).2.2.2.2.1 r
 have hb0 := (Qr.nodes_all true n).2.2.2.2.1 r
 have e0 : Qr.pAnd true (n + 1) r = match Qr.pNot true n r with
   | none => none
   | some (q, r') => Qr.lAnd true n [q] r' := by rw [Qr.pAnd]; rfl
 cases ho : Qr.pNot true n r with
 | none =>
  rw [ho] at h1 e0
  rw [e0]
  clear he hb0 e0 hP hSub
  go_enter Tryz.func195, Tryz.ntmps195
  go_wp2_with (go_at_call 250; refine (h1 _ hP0).mono ?_; rintro e w1 hh; obtain ⟨rfl, hF1⟩ := hh.bad; have hF1' : Qr.Fr g w w1 := ((Qr.Fr.refl g w).alloc _).trans hF1)
  exact ⟨rfl, rfl, hF1'⟩
 | some p =>
  obtain ⟨q0, r0⟩ := p
  rw [ho] at h1 e0
  have hs0 := he q0 r0 ho
  have hn0 := hb0 q0 r0 ho
  obtain ⟨X, hX⟩ : ∃ X, Qr.lAnd true n [q0] r0 = X := ⟨_, rfl⟩
  rw [e0]
  simp only
  rw [hX]
  have HX := Lib.hid hX
  clear he hb0 e0 hX ho hP
  go_enter Tryz.func195, Tryz.ntmps195
  go_wp2_with (go_at_call 250; refine (h1 _ hP0).mono ?_; rintro e w1 hh; obtain ⟨qo, qf, qa, qb, qsa, qsn, qsc, qka, qkn, qkc, rfl, hq1, hP1, hF1⟩ := hh.get; clear hh; have s1 := hF1.size; simp only [World.size_alloc] at s1 hq1; have kR1 : w1.heap[w.heap.size]? = some (.cells Qr.zeroQ 29 (0, 0)) := (hF1.block w.heap.size (by omega) (by simp)).trans (heap_alloc_new w _); have hF1' : Qr.Fr g w w1 := ((Qr.Fr.refl g w).alloc _).trans hF1)
  go_loopw [3] (fun v wr => ∃ (m : Nat) (acc : List Qr.Qy) (T : List Qr.QT) (r1 : List Qr.Tok), m ≤ n ∧ 8 * r1.length + 6 ≤ m ∧ Hid (Qr.lAnd true m acc r1 = X) ∧ Hid (acc ≠ []) ∧ Qr.nodesL acc + acc.length + 2 * r1.length ≤ 2 * r.length ∧ Qr.HL (w.heap.size + 1) wr v.ownBlock acc T ∧ wr.ownsRow (w.heap.size + 1) 29 6 v T.length (T.flatMap Qr.encQ) ∧ Qr.PS g l r1 wr ∧ wr.heap[w.heap.size]? = some (.cells Qr.zeroQ 29 (0, 0)) ∧ Qr.Fr g w wr) (fun _ w => l.length - Qr.atOf g w)
  case atStart =>
   refine ⟨n, [q0], [⟨qo, qf, qsa, qsn, qsc, qa, qb, qka, qkn, qkc⟩], r0, Nat.le_refl _, by omega, HX, Lib.hid (by simp), by simp only [Qr.nodesL, List.length_cons, List.length_nil]; omega, Qr.HL.one' hq1 (Qr.Kp.below (Tx.newb w1 _)) (Nat.le_refl _) (fun b hb => .inr (by have h9 : w1.heap.size = b := (by simpa [Value.ownBlock] using hb); omega)), World.ownsRow_lit w1 #[.int .i64 qo, .int .i64 qf, .slice qsa qsn qsc, .int .i64 qa, .int .i64 qb, .slice qka qkn qkc] 1 (by omega) (by unfold maxLen; omega) rfl, hP1.below (Tx.newb w1 _), Tx.blk_later kR1 (Tx.newb w1 _), hF1'.alloc _⟩
  case round =>
   obtain ⟨m, acc, T, r1, hm, hmr, hLX, hne, hnd, hHL, hown, hPr, hR, hF⟩ := hrel
   have hTl := hHL.1
   have hrs := hPr.suf.length_le
   obtain ⟨va, vc, rfl, hka⟩ := hHL.ka hown
   have hownb : ∀ b, (Value.slice va acc.length vc).ownBlock = some b → w.heap.size + 1 ≤ b ∧ b < wr.heap.size := fun b hb => hown.lt b hb
   have HOW := Lib.hid hownb; clear hownb
   obtain ⟨k, hk⟩ : ∃ k, m = k + 1 := ⟨m - 1, by omega⟩
   subst hk
   have hws := hF.size
   have hRl := (Array.getElem?_eq_some_iff.1 hR).1
   have hat := hPr.at_
   have HAT := Lib.hid hat; clear hat
   have HRR := Lib.hid hR; clear hR
   obtain ⟨A1, hA1⟩ : ∃ A1, l.length - r1.length = A1 := ⟨_, rfl⟩
   have hw1 := IntWalk.i64_in ((A1 : Int) + 1) ⟨by omega, by omega⟩
   have HA1 := Lib.hid hA1
   by_cases ho : Qr.isOp Qr.andB r1 = true
   ·have hte1 := Qr.tail_eats (Qr.isOp_ne ho)
    have hA2 : (A1 : Int) + 1 = ((l.length - r1.tail.length : Nat) : Int) := by
     have h1 := hte1.2
     rw [List.length_tail] at h1 ⊢
     omega
    have HT1 := Lib.hid hte1
    have HA2 := Lib.hid hA2
    have HO := Lib.hid ho
    have hrt := hte1.2
    clear hA2 hte1
    have h1s := fun w h => hSub k r1.tail w (by omega) (by omega) h
    have heS := (Qr.eats_all true k).2.2.2.2.1 r1.tail
    have hnS := (Qr.nodes_all true k).2.2.2.2.1 r1.tail
    cases hsub : Qr.pNot true k r1.tail with
    | none =>
     rw [hsub] at h1s
     have hS := h1s; clear h1s
     have HXN : Hid (X = none) := Lib.hid (by rw [← hLX.out, Qr.lAnd, if_pos ho, hsub])
     clear heS hnS hsub hA1
     go_wp2_with (first
      | (go_at_call 250; refine (hS _ (hP3.adv HT1.out.1 HA2.out)).mono ?_; rintro e w5 hh; obtain ⟨rfl, hF5⟩ := hh.bad; have hF5' : Qr.Fr g w w5 := hF.trans ((hF3.set rfl _).trans hF5))
      | (go_at_call 196; refine (is_c g l r1 Qr.andB _ hP2).mono ?_; rintro e w3 ⟨rfl, hb3⟩; rw [HO.out]; have s3 := hb3.size; have hP3 := hP2.below hb3; have hF3 : Qr.Fr g wr w3 := hF2.trans (.of_below hb3); obtain ⟨pta, ptc, pc0, pc1, pfz⟩ := hP3.cells; rw [HA1.out] at pc1)
      | (go_at_call 196; refine (is_c g l r1 Qr.andB _ hPr).mono ?_; rintro e w2 ⟨rfl, hb2⟩; rw [HO.out]; have s2 := hb2.size; have hP2 := hPr.below hb2; have hF2 : Qr.Fr g wr w2 := .of_below hb2))
     refine ⟨rfl, ?_⟩
     rw [HXN.out]
     exact ⟨rfl, hF5'⟩
    | some p =>
     obtain ⟨q2, r2⟩ := p
     rw [hsub] at h1s
     have hS := h1s; clear h1s
     have hes := heS q2 r2 hsub
     have hns := hnS q2 r2 hsub
     have hrl2 := hes.1.length_le
     have HXX : Hid (Qr.lAnd true k (acc ++ [q2]) r2 = X) := Lib.hid (by rw [← hLX.out, Qr.lAnd, if_pos ho, hsub])
     clear heS hnS hsub hA1
     go_wp2_with (first
      | (at_builtin; go_must (refine wpList_append_sl rfl _ _ 27 rfl (w.heap.size + 1) 29 i0 _ 6 80 Tryz.underlying27 HI.out hz0 hz1 hz2 rfl (by decide) _ T.length _ rfl (hown5.alloc _) (some ⟨_, 0, none⟩) 1 1 [.int .i64 qo, .int .i64 qf, .slice qsa qsn qsc, .int .i64 qa, .int .i64 qb, .slice qka qkn qkc] rfl rfl (fun h9 => by cases h9) (fun ad had => by cases had; exact Br.cells_new_at _ _ (by first | rfl | simp) _ _) (by simp [Value.oneCell']) (by unfold maxLen; omega) (by omega) (by simp; omega) ?_); intro v' w7 hown7 hg7 hnil7)
      | (go_at_call 250; refine (hS _ (hP3.adv HT1.out.1 HA2.out)).mono ?_; rintro e w5 hh; obtain ⟨qo, qf, qa, qb, qsa, qsn, qsc, qka, qkn, qkc, rfl, hq5, hP5, hF5⟩ := hh.get; clear hh; have s5 := hF5.size; have s5' : w3.heap.size ≤ w5.heap.size := (by simpa [World.setCell] using s5); have hF35 : Qr.Fr g wr w5 := (hF3.set rfl _).trans hF5; have hown5 := hF35.own hown (show g < w.heap.size + 1 by omega); have hBq : Hid ((w3.setCell ⟨g, 1, none⟩ (.int .i64 ((A1 : Int) + 1))).heap.size = w3.heap.size) := Lib.hid (by simp [World.setCell]))
      | (go_at_call 196; refine (is_c g l r1 Qr.andB _ hP2).mono ?_; rintro e w3 ⟨rfl, hb3⟩; rw [HO.out]; have s3 := hb3.size; have hP3 := hP2.below hb3; have hF3 : Qr.Fr g wr w3 := hF2.trans (.of_below hb3); obtain ⟨pta, ptc, pc0, pc1, pfz⟩ := hP3.cells; rw [HA1.out] at pc1)
      | (go_at_call 196; refine (is_c g l r1 Qr.andB _ hPr).mono ?_; rintro e w2 ⟨rfl, hb2⟩; rw [HO.out]; have s2 := hb2.size; have hP2 := hPr.below hb2; have hF2 : Qr.Fr g wr w2 := .of_below hb2))
     have hHL5 := hHL.fr hF35 (show g < w.heap.size + 1 by omega)
     have hHL6 := hHL5.fr ((Qr.Fr.refl g w5).alloc (.cells #[.int .i64 qo, .int .i64 qf, .slice qsa qsn qsc, .int .i64 qa, .int .i64 qb, .slice qka qkn qkc] 29)) (show g < w.heap.size + 1 by omega)
     have hone : Qr.HL (w.heap.size + 1) (w5.alloc (.cells #[.int .i64 qo, .int .i64 qf, .slice qsa qsn qsc, .int .i64 qa, .int .i64 qb, .slice qka qkn qkc] 29)) (Value.slice va acc.length vc).ownBlock [q2] [⟨qo, qf, qsa, qsn, qsc, qa, qb, qka, qkn, qkc⟩] := Qr.HL.one' hq5 (Qr.Kp.below (Tx.newb w5 _)) (by have := hBq.out; omega) (fun b hb => .inl (by have := HOW.out b hb; have := hBq.out; omega))
     have hgb : Below (g + 1) w5 w7 := ((Below.refl (g + 1) w5).alloc (by omega) _).grown hg7 (by simp; omega) (fun j hj => by have := HOW.out j hj; omega)
     have hP7 := hP5.low hgb
     have hR5 := (hF35.block w.heap.size (by omega) hRl).trans HRR.out
     have hR7 := (hg7.block w.heap.size (by simp; omega) (fun e => by have := HOW.out _ e.symm; omega)).trans (Tx.blk_later hR5 (Tx.newb w5 _))
     have hF7 : Qr.Fr g w w7 := ((hF.trans hF35).alloc _).grown hg7 (fun j hj => by have := HOW.out j hj; omega)
     have hat7 := hP7.at_
     go_roundw
     case rel => exact ⟨k, acc ++ [q2], T ++ [⟨qo, qf, qsa, qsn, qsc, qa, qb, qka, qkn, qkc⟩], r2, by omega, by omega, HXX, Lib.hid (by simp), by rw [Qr.nodesL_app, List.length_append]; simp only [Qr.nodesL, List.length_cons, List.length_nil]; omega, (hHL6.app hone).grown hg7 hnil7, by rw [List.length_append, List.flatMap_append]; exact hown7, hP7, hR7, hF7⟩
     case measure => rw [hat7, HAT.out]; omega
   ·have ho' : Qr.isOp Qr.andB r1 = false := by simpa using ho
    have HO := Lib.hid ho'
    by_cases hg : Qr.begins r1 = true
    ·have HG := Lib.hid hg
     have h1s := fun w h => hSub k r1 w (by omega) (by omega) h
     have heS := (Qr.eats_all true k).2.2.2.2.1 r1
     have hnS := (Qr.nodes_all true k).2.2.2.2.1 r1
     cases hsub : Qr.pNot true k r1 with
     | none =>
      rw [hsub] at h1s
      have hS := h1s; clear h1s
      have HXN : Hid (X = none) := Lib.hid (by rw [← hLX.out, Qr.lAnd, if_neg ho, if_pos hg, hsub])
      clear heS hnS hsub hA1
      go_wp2_with (first
       | (go_at_call 250; refine (hS _ (hP3)).mono ?_; rintro e w5 hh; obtain ⟨rfl, hF5⟩ := hh.bad; have hF5' : Qr.Fr g w w5 := hF.trans (hF3.trans hF5))
       | (go_at_call 196; refine (is_c g l r1 Qr.andB _ hP4).mono ?_; rintro e w3 ⟨rfl, hb3⟩; rw [HO.out]; have s3 := hb3.size; have hP3 := hP4.below hb3; have hF3 : Qr.Fr g wr w3 := hF4.trans (.of_below hb3))
       | (go_at_call 251; refine (begins_c g l r1 _ hP2).mono ?_; rintro e w4 ⟨rfl, hb4⟩; rw [HG.out]; have s4 := hb4.size; have hP4 := hP2.below hb4; have hF4 : Qr.Fr g wr w4 := hF2.trans (.of_below hb4))
       | (go_at_call 196; refine (is_c g l r1 Qr.andB _ hPr).mono ?_; rintro e w2 ⟨rfl, hb2⟩; rw [HO.out]; have s2 := hb2.size; have hP2 := hPr.below hb2; have hF2 : Qr.Fr g wr w2 := .of_below hb2))
      refine ⟨rfl, ?_⟩
      rw [HXN.out]
      exact ⟨rfl, hF5'⟩
     | some p =>
      obtain ⟨q2, r2⟩ := p
      rw [hsub] at h1s
      have hS := h1s; clear h1s
      have hes := heS q2 r2 hsub
      have hns := hnS q2 r2 hsub
      have hrl2 := hes.1.length_le
      have HXX : Hid (Qr.lAnd true k (acc ++ [q2]) r2 = X) := Lib.hid (by rw [← hLX.out, Qr.lAnd, if_neg ho, if_pos hg, hsub])
      clear heS hnS hsub hA1
      go_wp2_with (first
       | (at_builtin; go_must (refine wpList_append_sl rfl _ _ 27 rfl (w.heap.size + 1) 29 i0 _ 6 80 Tryz.underlying27 HI.out hz0 hz1 hz2 rfl (by decide) _ T.length _ rfl (hown5.alloc _) (some ⟨_, 0, none⟩) 1 1 [.int .i64 qo, .int .i64 qf, .slice qsa qsn qsc, .int .i64 qa, .int .i64 qb, .slice qka qkn qkc] rfl rfl (fun h9 => by cases h9) (fun ad had => by cases had; exact Br.cells_new_at _ _ (by first | rfl | simp) _ _) (by simp [Value.oneCell']) (by unfold maxLen; omega) (by omega) (by simp; omega) ?_); intro v' w7 hown7 hg7 hnil7)
       | (go_at_call 250; refine (hS _ (hP3)).mono ?_; rintro e w5 hh; obtain ⟨qo, qf, qa, qb, qsa, qsn, qsc, qka, qkn, qkc, rfl, hq5, hP5, hF5⟩ := hh.get; clear hh; have s5 := hF5.size; have s5' : w3.heap.size ≤ w5.heap.size := s5; have hF35 : Qr.Fr g wr w5 := hF3.trans hF5; have hown5 := hF35.own hown (show g < w.heap.size + 1 by omega); have hBq : Hid (w3.heap.size = w3.heap.size) := Lib.hid rfl)
       | (go_at_call 196; refine (is_c g l r1 Qr.andB _ hP4).mono ?_; rintro e w3 ⟨rfl, hb3⟩; rw [HO.out]; have s3 := hb3.size; have hP3 := hP4.below hb3; have hF3 : Qr.Fr g wr w3 := hF4.trans (.of_below hb3))
       | (go_at_call 251; refine (begins_c g l r1 _ hP2).mono ?_; rintro e w4 ⟨rfl, hb4⟩; rw [HG.out]; have s4 := hb4.size; have hP4 := hP2.below hb4; have hF4 : Qr.Fr g wr w4 := hF2.trans (.of_below hb4))
       | (go_at_call 196; refine (is_c g l r1 Qr.andB _ hPr).mono ?_; rintro e w2 ⟨rfl, hb2⟩; rw [HO.out]; have s2 := hb2.size; have hP2 := hPr.below hb2; have hF2 : Qr.Fr g wr w2 := .of_below hb2))
      have hHL5 := hHL.fr hF35 (show g < w.heap.size + 1 by omega)
      have hHL6 := hHL5.fr ((Qr.Fr.refl g w5).alloc (.cells #[.int .i64 qo, .int .i64 qf, .slice qsa qsn qsc, .int .i64 qa, .int .i64 qb, .slice qka qkn qkc] 29)) (show g < w.heap.size + 1 by omega)
      have hone : Qr.HL (w.heap.size + 1) (w5.alloc (.cells #[.int .i64 qo, .int .i64 qf, .slice qsa qsn qsc, .int .i64 qa, .int .i64 qb, .slice qka qkn qkc] 29)) (Value.slice va acc.length vc).ownBlock [q2] [⟨qo, qf, qsa, qsn, qsc, qa, qb, qka, qkn, qkc⟩] := Qr.HL.one' hq5 (Qr.Kp.below (Tx.newb w5 _)) (by have := hBq.out; omega) (fun b hb => .inl (by have := HOW.out b hb; have := hBq.out; omega))
      have hgb : Below (g + 1) w5 w7 := ((Below.refl (g + 1) w5).alloc (by omega) _).grown hg7 (by simp; omega) (fun j hj => by have := HOW.out j hj; omega)
      have hP7 := hP5.low hgb
      have hR5 := (hF35.block w.heap.size (by omega) hRl).trans HRR.out
      have hR7 := (hg7.block w.heap.size (by simp; omega) (fun e => by have := HOW.out _ e.symm; omega)).trans (Tx.blk_later hR5 (Tx.newb w5 _))
      have hF7 : Qr.Fr g w w7 := ((hF.trans hF35).alloc _).grown hg7 (fun j hj => by have := HOW.out j hj; omega)
      have hat7 := hP7.at_
      go_roundw
      case rel => exact ⟨k, acc ++ [q2], T ++ [⟨qo, qf, qsa, qsn, qsc, qa, qb, qka, qkn, qkc⟩], r2, by omega, by omega, HXX, Lib.hid (by simp), by rw [Qr.nodesL_app, List.length_append]; simp only [Qr.nodesL, List.length_cons, List.length_nil]; omega, (hHL6.app hone).grown hg7 hnil7, by rw [List.length_append, List.flatMap_append]; exact hown7, hP7, hR7, hF7⟩
      case measure => rw [hat7, HAT.out]; omega
    ·have hg' : Qr.begins r1 = false := by simpa using hg
     have HG := Lib.hid hg'
     have HXN : Hid (X = some (Qr.joined 5 acc, r1)) := Lib.hid (by rw [← hLX.out, Qr.lAnd, if_neg ho, if_neg hg])
     clear ho ho' hg hg' hA1
     go_wp2_with (first
      | (go_at_call 197; refine (joined_c (w.heap.size + 1) 5 acc va vc _ (hka.fr hF4 (show g < w.heap.size + 1 by omega)) (by omega) (by omega)).mono ?_; rintro e w9 ⟨⟨qo, qf, qsa, qsn, qsc, qa, qb, qka, qkn, qkc⟩, rfl, hq9, hb9⟩; simp only [Qr.encQ] at hq9; have s9 := hb9.size; have hF9 : Qr.Fr g wr w9 := hF4.trans (.of_below hb9); have hP9 := hP4.below hb9; have kR9 := (hF9.block w.heap.size (by omega) hRl).trans HRR.out; have z0 : w9.cell? ⟨w.heap.size, 0, none⟩ = some (.int .i64 0) := (Tx.blk kR9).1 0; have z1 : w9.cell? ⟨w.heap.size, 1, none⟩ = some (.int .i64 0) := (Tx.blk kR9).1 1; have z2 : w9.cell? ⟨w.heap.size, 2, none⟩ = some (.slice none 0 0) := (Tx.blk kR9).1 2; have z3 : w9.cell? ⟨w.heap.size, 3, none⟩ = some (.int .i64 0) := (Tx.blk kR9).1 3; have z4 : w9.cell? ⟨w.heap.size, 4, none⟩ = some (.int .i64 0) := (Tx.blk kR9).1 4; have z5 : w9.cell? ⟨w.heap.size, 5, none⟩ = some (.slice none 0 0) := (Tx.blk kR9).1 5; have fr9 : ∀ i, w9.frozen? ⟨w.heap.size, i, none⟩ = false := (Tx.blk kR9).2.1; obtain ⟨ta9, tc9, kg9, _, _⟩ := hP9.blk; have KP9 := Lib.hid kg9; clear kg9 kR9)
      | (go_at_call 251; refine (begins_c g l r1 _ hP2).mono ?_; rintro e w4 ⟨rfl, hb4⟩; rw [HG.out]; have s4 := hb4.size; have hP4 := hP2.below hb4; have hF4 : Qr.Fr g wr w4 := hF2.trans (.of_below hb4))
      | (go_at_call 196; refine (is_c g l r1 Qr.andB _ hPr).mono ?_; rintro e w2 ⟨rfl, hb2⟩; rw [HO.out]; have s2 := hb2.size; have hP2 := hPr.below hb2; have hF2 : Qr.Fr g wr w2 := .of_below hb2))
     refine bodyPost_ret (v := .agg #[.int .i64 qo, .int .i64 qf, .slice qsa qsn qsc, .int .i64 qa, .int .i64 qb, .slice qka qkn qkc]) (by simp [results, Tryz.results195, go_sem, z0, z1, z2, z3, z4, z5]) rfl ?_
     rw [HXN.out]
     exact ⟨⟨qo, qf, qsa, qsn, qsc, qa, qb, qka, qkn, qkc⟩, rfl, (hq9.kp (Qr.Kp.put6 (Qr.Kp.refl _ _) (by omega) _ _ _ _ _ _)).mono (by omega), Qr.PS.of' hP9 KP9.out (Tx.put6 (Below.refl _ _) (by omega) _ _ _ _ _ _) (List.suffix_refl _) (Qr.far6 KP9.out (show g ≠ w.heap.size by omega) _ _ _ _ _ _) rfl, Qr.Fr.put6 (hF.trans hF9) (Nat.le_refl _) _ _ _ _ _ _⟩
end Go.Proofs.YtlakomilichhnaaGreatDoor
namespace Go.Proofs.YtlakomilichhnaaGreatDoor
open Go.RowKit
set_option maxRecDepth 100000
attribute [local go_sem] Qr.run_tok0 Qr.run_tok1 Qr.run_tok2
set_option maxHeartbeats 6400000 in
theorem or_c (g n : Nat) (l : List Qr.Tok) (hl : l.length ≤ 400000) (hSub : ∀ (m : Nat) (r : List Qr.Tok) (w : World), m ≤ n → 8 * r.length + 6 ≤ m → Qr.PS g l r w → Calls Tryz.prog 195 #[.pointer (some ⟨g, 0, none⟩)] w (Qr.Res g l (Qr.pAnd true m r) w))
  (r : List Qr.Tok) (w : World) (hn : 8 * r.length + 7 ≤ n + 1) (hP : Qr.PS g l r w) :
  Calls Tryz.prog 117 #[.pointer (some ⟨g, 0, none⟩)] w (Qr.Res g l (Qr.pOr true (n + 1) r) w) := by
 obtain ⟨i0, hi0, hz0, hz1, hz2⟩ := info_parts info_qy
 have HI := Lib.hid hi0; clear hi0
 have hgl := hP.lt
 have hrl := hP.suf.length_le
 have hmx : maxLen = 9223372036854775807 := rfl
 have hP0 := hP.below (Tx.newb w (.cells Qr.zeroQ 29))
 have h1 := fun w h => hSub n r w (Nat.le_refl _) (by omega) h
 have he := (Qr.eats_all true n).2.2.1 r
 have hb0 := (Qr.nodes_all true n).2.2.1 r
 have e0 : Qr.pOr true (n + 1) r = match Qr.pAnd true n r with
   | none => none
   | some (q, r') => Qr.lOr true n [q] r' := by rw [Qr.pOr]; rfl
 cases ho : Qr.pAnd true n r with
 | none =>
  rw [ho] at h1 e0
  rw [e0]
  clear he hb0 e0 hP hSub
  go_enter Tryz.func117, Tryz.ntmps117
  go_wp2_with (go_at_call 195; refine (h1 _ hP0).mono ?_; rintro e w1 hh; obtain ⟨rfl, hF1⟩ := hh.bad; have hF1' : Qr.Fr g w w1 := ((Qr.Fr.refl g w).alloc _).trans hF1)
  exact ⟨rfl, rfl, hF1'⟩
 | some p =>
  obtain ⟨q0, r0⟩ := p
  rw [ho] at h1 e0
  have hs0 := he q0 r0 ho
  have hn0 := hb0 q0 r0 ho
  obtain ⟨X, hX⟩ : ∃ X, Qr.lOr true n [q0] r0 = X := ⟨_, rfl⟩
  rw [e0]
  simp only
  rw [hX]
  have HX := Lib.hid hX
  clear he hb0 e0 hX ho hP
  go_enter Tryz.func117, Tryz.ntmps117
  go_wp2_with (go_at_call 195; refine (h1 _ hP0).mono ?_; rintro e w1 hh; obtain ⟨qo, qf, qa, qb, qsa, qsn, qsc, qka, qkn, qkc, rfl, hq1, hP1, hF1⟩ := hh.get; clear hh; have s1 := hF1.size; simp only [World.size_alloc] at s1 hq1; have kR1 : w1.heap[w.heap.size]? = some (.cells Qr.zeroQ 29 (0, 0)) := (hF1.block w.heap.size (by omega) (by simp)).trans (heap_alloc_new w _); have hF1' : Qr.Fr g w w1 := ((Qr.Fr.refl g w).alloc _).trans hF1)
  go_loopw [3] (fun v wr => ∃ (m : Nat) (acc : List Qr.Qy) (T : List Qr.QT) (r1 : List Qr.Tok), m ≤ n ∧ 8 * r1.length + 7 ≤ m ∧ Hid (Qr.lOr true m acc r1 = X) ∧ Hid (acc ≠ []) ∧ Qr.nodesL acc + acc.length + 2 * r1.length ≤ 2 * r.length ∧ Qr.HL (w.heap.size + 1) wr v.ownBlock acc T ∧ wr.ownsRow (w.heap.size + 1) 29 6 v T.length (T.flatMap Qr.encQ) ∧ Qr.PS g l r1 wr ∧ wr.heap[w.heap.size]? = some (.cells Qr.zeroQ 29 (0, 0)) ∧ Qr.Fr g w wr) (fun _ w => l.length - Qr.atOf g w)
  case atStart =>
   refine ⟨n, [q0], [⟨qo, qf, qsa, qsn, qsc, qa, qb, qka, qkn, qkc⟩], r0, Nat.le_refl _, by omega, HX, Lib.hid (by simp), by simp only [Qr.nodesL, List.length_cons, List.length_nil]; omega, Qr.HL.one' hq1 (Qr.Kp.below (Tx.newb w1 _)) (Nat.le_refl _) (fun b hb => .inr (by have h9 : w1.heap.size = b := (by simpa [Value.ownBlock] using hb); omega)), World.ownsRow_lit w1 #[.int .i64 qo, .int .i64 qf, .slice qsa qsn qsc, .int .i64 qa, .int .i64 qb, .slice qka qkn qkc] 1 (by omega) (by unfold maxLen; omega) rfl, hP1.below (Tx.newb w1 _), Tx.blk_later kR1 (Tx.newb w1 _), hF1'.alloc _⟩
  case round =>
   obtain ⟨m, acc, T, r1, hm, hmr, hLX, hne, hnd, hHL, hown, hPr, hR, hF⟩ := hrel
   have hTl := hHL.1
   have hrs := hPr.suf.length_le
   obtain ⟨va, vc, rfl, hka⟩ := hHL.ka hown
   have hownb : ∀ b, (Value.slice va acc.length vc).ownBlock = some b → w.heap.size + 1 ≤ b ∧ b < wr.heap.size := fun b hb => hown.lt b hb
   have HOW := Lib.hid hownb; clear hownb
   obtain ⟨k, hk⟩ : ∃ k, m = k + 1 := ⟨m - 1, by omega⟩
   subst hk
   have hws := hF.size
   have hRl := (Array.getElem?_eq_some_iff.1 hR).1
   have hat := hPr.at_
   have HAT := Lib.hid hat; clear hat
   have HRR := Lib.hid hR; clear hR
   obtain ⟨A1, hA1⟩ : ∃ A1, l.length - r1.length = A1 := ⟨_, rfl⟩
   have hw1 := IntWalk.i64_in ((A1 : Int) + 1) ⟨by omega, by omega⟩
   have HA1 := Lib.hid hA1
   by_cases ho : Qr.isOp Qr.orB r1 = true
   ·have hte1 := Qr.tail_eats (Qr.isOp_ne ho)
    have hA2 : (A1 : Int) + 1 = ((l.length - r1.tail.length : Nat) : Int) := by
     have h1 := hte1.2
     rw [List.length_tail] at h1 ⊢
     omega
    have HT1 := Lib.hid hte1
    have HA2 := Lib.hid hA2
    have HO := Lib.hid ho
    have hrt := hte1.2
    clear hA2 hte1
    have h1s := fun w h => hSub k r1.tail w (by omega) (by omega) h
    have heS := (Qr.eats_all true k).2.2.1 r1.tail
    have hnS := (Qr.nodes_all true k).2.2.1 r1.tail
    cases hsub : Qr.pAnd true k r1.tail with
    | none =>
     rw [hsub] at h1s
     have hS := h1s; clear h1s
     have HXN : Hid (X = none) := Lib.hid (by rw [← hLX.out, Qr.lOr, if_pos ho, hsub])
     clear heS hnS hsub hA1
     go_wp2_with (first
      | (go_at_call 195; refine (hS _ (hP2.adv HT1.out.1 HA2.out)).mono ?_; rintro e w5 hh; obtain ⟨rfl, hF5⟩ := hh.bad; have hF5' : Qr.Fr g w w5 := hF.trans ((hF2.set rfl _).trans hF5))
      | (go_at_call 196; refine (is_c g l r1 Qr.orB _ hPr).mono ?_; rintro e w2 ⟨rfl, hb2⟩; rw [HO.out]; have s2 := hb2.size; have hP2 := hPr.below hb2; have hF2 : Qr.Fr g wr w2 := .of_below hb2; obtain ⟨pta, ptc, pc0, pc1, pfz⟩ := hP2.cells; rw [HA1.out] at pc1))
     refine ⟨rfl, ?_⟩
     rw [HXN.out]
     exact ⟨rfl, hF5'⟩
    | some p =>
     obtain ⟨q2, r2⟩ := p
     rw [hsub] at h1s
     have hS := h1s; clear h1s
     have hes := heS q2 r2 hsub
     have hns := hnS q2 r2 hsub
     have hrl2 := hes.1.length_le
     have HXX : Hid (Qr.lOr true k (acc ++ [q2]) r2 = X) := Lib.hid (by rw [← hLX.out, Qr.lOr, if_pos ho, hsub])
     clear heS hnS hsub hA1
     go_wp2_with (first
      | (at_builtin; go_must (refine wpList_append_sl rfl _ _ 27 rfl (w.heap.size + 1) 29 i0 _ 6 80 Tryz.underlying27 HI.out hz0 hz1 hz2 rfl (by decide) _ T.length _ rfl (hown5.alloc _) (some ⟨_, 0, none⟩) 1 1 [.int .i64 qo, .int .i64 qf, .slice qsa qsn qsc, .int .i64 qa, .int .i64 qb, .slice qka qkn qkc] rfl rfl (fun h9 => by cases h9) (fun ad had => by cases had; exact Br.cells_new_at _ _ (by first | rfl | simp) _ _) (by simp [Value.oneCell']) (by unfold maxLen; omega) (by omega) (by simp; omega) ?_); intro v' w7 hown7 hg7 hnil7)
      | (go_at_call 195; refine (hS _ (hP2.adv HT1.out.1 HA2.out)).mono ?_; rintro e w5 hh; obtain ⟨qo, qf, qa, qb, qsa, qsn, qsc, qka, qkn, qkc, rfl, hq5, hP5, hF5⟩ := hh.get; clear hh; have s5 := hF5.size; have s5' : w2.heap.size ≤ w5.heap.size := (by simpa [World.setCell] using s5); have hF35 : Qr.Fr g wr w5 := (hF2.set rfl _).trans hF5; have hown5 := hF35.own hown (show g < w.heap.size + 1 by omega); have hBq : Hid ((w2.setCell ⟨g, 1, none⟩ (.int .i64 ((A1 : Int) + 1))).heap.size = w2.heap.size) := Lib.hid (by simp [World.setCell]))
      | (go_at_call 196; refine (is_c g l r1 Qr.orB _ hPr).mono ?_; rintro e w2 ⟨rfl, hb2⟩; rw [HO.out]; have s2 := hb2.size; have hP2 := hPr.below hb2; have hF2 : Qr.Fr g wr w2 := .of_below hb2; obtain ⟨pta, ptc, pc0, pc1, pfz⟩ := hP2.cells; rw [HA1.out] at pc1))
     have hHL5 := hHL.fr hF35 (show g < w.heap.size + 1 by omega)
     have hHL6 := hHL5.fr ((Qr.Fr.refl g w5).alloc (.cells #[.int .i64 qo, .int .i64 qf, .slice qsa qsn qsc, .int .i64 qa, .int .i64 qb, .slice qka qkn qkc] 29)) (show g < w.heap.size + 1 by omega)
     have hone : Qr.HL (w.heap.size + 1) (w5.alloc (.cells #[.int .i64 qo, .int .i64 qf, .slice qsa qsn qsc, .int .i64 qa, .int .i64 qb, .slice qka qkn qkc] 29)) (Value.slice va acc.length vc).ownBlock [q2] [⟨qo, qf, qsa, qsn, qsc, qa, qb, qka, qkn, qkc⟩] := Qr.HL.one' hq5 (Qr.Kp.below (Tx.newb w5 _)) (by have := hBq.out; omega) (fun b hb => .inl (by have := HOW.out b hb; have := hBq.out; omega))
     have hgb : Below (g + 1) w5 w7 := ((Below.refl (g + 1) w5).alloc (by omega) _).grown hg7 (by simp; omega) (fun j hj => by have := HOW.out j hj; omega)
     have hP7 := hP5.low hgb
     have hR5 := (hF35.block w.heap.size (by omega) hRl).trans HRR.out
     have hR7 := (hg7.block w.heap.size (by simp; omega) (fun e => by have := HOW.out _ e.symm; omega)).trans (Tx.blk_later hR5 (Tx.newb w5 _))
     have hF7 : Qr.Fr g w w7 := ((hF.trans hF35).alloc _).grown hg7 (fun j hj => by have := HOW.out j hj; omega)
     have hat7 := hP7.at_
     go_roundw
     case rel => exact ⟨k, acc ++ [q2], T ++ [⟨qo, qf, qsa, qsn, qsc, qa, qb, qka, qkn, qkc⟩], r2, by omega, by omega, HXX, Lib.hid (by simp), by rw [Qr.nodesL_app, List.length_append]; simp only [Qr.nodesL, List.length_cons, List.length_nil]; omega, (hHL6.app hone).grown hg7 hnil7, by rw [List.length_append, List.flatMap_append]; exact hown7, hP7, hR7, hF7⟩
     case measure => rw [hat7, HAT.out]; omega
   ·have ho' : Qr.isOp Qr.orB r1 = false := by simpa using ho
    have HO := Lib.hid ho'
    have HXN : Hid (X = some (Qr.joined 6 acc, r1)) := Lib.hid (by rw [← hLX.out, Qr.lOr, if_neg ho])
    clear ho ho' hA1
    go_wp2_with (first
     | (go_at_call 197; refine (joined_c (w.heap.size + 1) 6 acc va vc _ (hka.fr hF2 (show g < w.heap.size + 1 by omega)) (by omega) (by omega)).mono ?_; rintro e w9 ⟨⟨qo, qf, qsa, qsn, qsc, qa, qb, qka, qkn, qkc⟩, rfl, hq9, hb9⟩; simp only [Qr.encQ] at hq9; have s9 := hb9.size; have hF9 : Qr.Fr g wr w9 := hF2.trans (.of_below hb9); have hP9 := hP2.below hb9; have kR9 := (hF9.block w.heap.size (by omega) hRl).trans HRR.out; have z0 : w9.cell? ⟨w.heap.size, 0, none⟩ = some (.int .i64 0) := (Tx.blk kR9).1 0; have z1 : w9.cell? ⟨w.heap.size, 1, none⟩ = some (.int .i64 0) := (Tx.blk kR9).1 1; have z2 : w9.cell? ⟨w.heap.size, 2, none⟩ = some (.slice none 0 0) := (Tx.blk kR9).1 2; have z3 : w9.cell? ⟨w.heap.size, 3, none⟩ = some (.int .i64 0) := (Tx.blk kR9).1 3; have z4 : w9.cell? ⟨w.heap.size, 4, none⟩ = some (.int .i64 0) := (Tx.blk kR9).1 4; have z5 : w9.cell? ⟨w.heap.size, 5, none⟩ = some (.slice none 0 0) := (Tx.blk kR9).1 5; have fr9 : ∀ i, w9.frozen? ⟨w.heap.size, i, none⟩ = false := (Tx.blk kR9).2.1; obtain ⟨ta9, tc9, kg9, _, _⟩ := hP9.blk; have KP9 := Lib.hid kg9; clear kg9 kR9)
     | (go_at_call 196; refine (is_c g l r1 Qr.orB _ hPr).mono ?_; rintro e w2 ⟨rfl, hb2⟩; rw [HO.out]; have s2 := hb2.size; have hP2 := hPr.below hb2; have hF2 : Qr.Fr g wr w2 := .of_below hb2))
    refine bodyPost_ret (v := .agg #[.int .i64 qo, .int .i64 qf, .slice qsa qsn qsc, .int .i64 qa, .int .i64 qb, .slice qka qkn qkc]) (by simp [results, Tryz.results117, go_sem, z0, z1, z2, z3, z4, z5]) rfl ?_
    rw [HXN.out]
    exact ⟨⟨qo, qf, qsa, qsn, qsc, qa, qb, qka, qkn, qkc⟩, rfl, (hq9.kp (Qr.Kp.put6 (Qr.Kp.refl _ _) (by omega) _ _ _ _ _ _)).mono (by omega), Qr.PS.of' hP9 KP9.out (Tx.put6 (Below.refl _ _) (by omega) _ _ _ _ _ _) (List.suffix_refl _) (Qr.far6 KP9.out (show g ≠ w.heap.size by omega) _ _ _ _ _ _) rfl, Qr.Fr.put6 (hF.trans hF9) (Nat.le_refl _) _ _ _ _ _ _⟩
end Go.Proofs.YtlakomilichhnaaGreatDoor
namespace Go.Proofs.YtlakomilichhnaaGreatDoor
open Go.RowKit
set_option maxRecDepth 100000
theorem readers (g : Nat) (l : List Qr.Tok) (hl : l.length ≤ 400000) : ∀ n : Nat,
  (∀ (m : Nat) (r : List Qr.Tok) (w : World), m ≤ n → 8 * r.length + 7 ≤ m → Qr.PS g l r w → Calls Tryz.prog 117 #[.pointer (some ⟨g, 0, none⟩)] w (Qr.Res g l (Qr.pOr true m r) w)) ∧
  (∀ (m : Nat) (r : List Qr.Tok) (w : World), m ≤ n → 8 * r.length + 6 ≤ m → Qr.PS g l r w → Calls Tryz.prog 195 #[.pointer (some ⟨g, 0, none⟩)] w (Qr.Res g l (Qr.pAnd true m r) w)) ∧
  (∀ (m : Nat) (r : List Qr.Tok) (w : World), m ≤ n → 8 * r.length + 5 ≤ m → Qr.PS g l r w → Calls Tryz.prog 250 #[.pointer (some ⟨g, 0, none⟩)] w (Qr.Res g l (Qr.pNot true m r) w)) ∧
  (∀ (m : Nat) (r : List Qr.Tok) (w : World), m ≤ n → 8 * r.length + 4 ≤ m → Qr.PS g l r w → Calls Tryz.prog 287 #[.pointer (some ⟨g, 0, none⟩)] w (Qr.Res g l (Qr.pPrim true m r) w))
 | 0 => ⟨fun m r w h1 h2 _ => by omega, fun m r w h1 h2 _ => by omega, fun m r w h1 h2 _ => by omega, fun m r w h1 h2 _ => by omega⟩
 | n + 1 => by
  obtain ⟨h1, h2, h3, h4⟩ := readers g l hl n
  refine ⟨fun m r w hm hn hP => ?_, fun m r w hm hn hP => ?_, fun m r w hm hn hP => ?_, fun m r w hm hn hP => ?_⟩
  ·by_cases hle : m ≤ n
   ·exact h1 m r w hle hn hP
   ·obtain rfl : m = n + 1 := by omega
    exact or_c g n l hl h2 r w hn hP
  ·by_cases hle : m ≤ n
   ·exact h2 m r w hle hn hP
   ·obtain rfl : m = n + 1 := by omega
    exact and_c g n l hl h3 r w hn hP
  ·by_cases hle : m ≤ n
   ·exact h3 m r w hle hn hP
   ·obtain rfl : m = n + 1 := by omega
    exact not_c g n l (fun r w h hP => h4 n r w (Nat.le_refl _) h hP) r w hn hP
  ·by_cases hle : m ≤ n
   ·exact h4 m r w hle hn hP
   ·obtain rfl : m = n + 1 := by omega
    exact prim_c g n l (fun r w h hP => h1 n r w (Nat.le_refl _) h hP) r w hn hP
end Go.Proofs.YtlakomilichhnaaGreatDoor
