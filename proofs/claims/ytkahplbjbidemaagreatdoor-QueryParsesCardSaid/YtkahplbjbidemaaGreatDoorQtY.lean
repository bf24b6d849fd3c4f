/- A term is read: what the program's call does. -/
import Derived.Test.YtkahplbjbidemaaGreatDoorQtX
import Derived.Test.YtkahplbjbidemaaGreatDoorNmB
namespace Go.Proofs.YtkahplbjbidemaaGreatDoor
open Go.RowKit
set_option maxRecDepth 100000
attribute [local go_sem] Qr.run_tok0 Qr.run_tok1 Qr.run_tok2

namespace Qr
theorem wordsB_bys {xs : List ByteArray} {t : By} (h : xs.map (·.data.toList) = Tx.words t) : xs = wordsB t := by
  unfold wordsB
  rw [← h, List.map_map]
  conv => lhs; rw [← List.map_id xs]
  rfl
theorem lk_mem {r : List Tok} (h : (lk r).k ≠ 0) : lk r ∈ r := by
  cases r with
  | nil => exact absurd rfl h
  | cons t l => exact List.mem_cons_self
theorem PS.tok {g : Nat} {l r : List Tok} {w : World} (h : PS g l r w) (hk : (lk r).k ≠ 0) : Tx.valid (lk r).t = true ∧ (lk r).t.length ≤ 1000 :=
  h.ok _ (h.suf.subset (lk_mem hk))
abbrev zeroQ : Array Value := #[.int .i64 0, .int .i64 0, .slice none 0 0, .int .i64 0, .int .i64 0, .slice none 0 0]
abbrev cellsT (t : Tok) : Array Value := #[.int .u8 t.k.toNat, .string ⟨t.t.toArray⟩, .bool t.g]
end Qr
theorem look0 {g : Nat} {l r : List Qr.Tok} {kk : UInt8} {tt : List UInt8} {tg : Bool} {K : Int} {w : World} (ht : Qr.lk r = ⟨kk, tt, tg⟩) (hK : (kk.toNat : Int) = K) (hP : Qr.PS g l r w) :
    Calls Tryz.prog 76 #[.pointer (some ⟨g, 0, none⟩), .int .i64 0] w fun e w' => e = .returned (.agg #[.int .u8 K, .string ⟨tt.toArray⟩, .bool tg]) ∧ Below w.heap.size w w' := by
  have := look_c g 0 0 l r w rfl (by omega) hP
  rw [List.drop_zero, ht] at this
  simp only [hK] at this
  exact this
theorem look1 {g : Nat} {l r : List Qr.Tok} {kk : UInt8} {tt : List UInt8} {tg : Bool} {K : Int} {w : World} (ht : Qr.lk1 r = ⟨kk, tt, tg⟩) (hK : (kk.toNat : Int) = K) (hP : Qr.PS g l r w) :
    Calls Tryz.prog 76 #[.pointer (some ⟨g, 0, none⟩), .int .i64 1] w fun e w' => e = .returned (.agg #[.int .u8 K, .string ⟨tt.toArray⟩, .bool tg]) ∧ Below w.heap.size w w' := by
  have := look_c g 1 1 l r w rfl (by omega) hP
  rw [List.drop_one, show Qr.lk r.tail = ⟨kk, tt, tg⟩ from ht] at this
  simp only [hK] at this
  exact this

set_option maxHeartbeats 400000 in
theorem term_glue (g : Nat) (l r : List Qr.Tok) (w : World) (hP : Qr.PS g l r w) (hg : Qr.glue 58 r = true) :
    Calls Tryz.prog 96 #[.pointer (some ⟨g, 0, none⟩)] w fun e w' => e = .panicked [{ v := Qr.wrongP, recovered := false }] ∧ Below w.heap.size w w' := by
  obtain ⟨⟨tk, tt, tg⟩, ht⟩ : ∃ t, Qr.lk r = t := ⟨_, rfl⟩
  obtain ⟨⟨nk, nt, ng⟩, hn⟩ : ∃ n, Qr.lk1 r = n := ⟨_, rfl⟩
  unfold Qr.glue at hg
  rw [ht, hn] at hg
  simp only [Bool.and_eq_true, beq_iff_eq] at hg
  obtain ⟨⟨k1, k2⟩, k3⟩ := hg
  subst k1 k2 k3
  have L0 := fun w h => look0 (K := 114) (w := w) (g := g) (l := l) ht rfl h
  have L1 := fun w h => look1 (K := 58) (w := w) (g := g) (l := l) hn rfl h
  clear ht hn
  have hP0 := hP.below (Tx.newb w (.cells Qr.zeroQ 25))
  go_enter Tryz.func96, Tryz.ntmps96
  go_wp2_with (first
    | (go_at_call 76; refine (L1 _ (hP1.below (Tx.newb _ _))).mono ?_; rintro e w2 ⟨rfl, hb2⟩; have e0 : (w2.alloc (.cells #[.int .u8 58, .string ⟨nt.toArray⟩, .bool true] 77)).cell? ⟨w1.heap.size, 0, none⟩ = some (.int .u8 114) := (Tx.blk (Tx.blk_later (Tx.blk_later (heap_alloc_new w1 (.cells #[.int .u8 114, .string ⟨tt.toArray⟩, .bool tg] 77)) hb2) (Tx.newb w2 _))).1 0)
    | (go_at_call 76; refine (L0 _ hP0).mono ?_; rintro e w1 ⟨rfl, hb1⟩; have hP1 := hP0.below hb1))
  exact ⟨rfl, rfl, (Tx.newb w _).trans ((hb1.trans (((Tx.newb _ _).trans ((hb2.trans ((Tx.newb _ _).mono hb2.size)).mono (by simp))).mono hb1.size)).mono (by simp))⟩

namespace Qr
/-- From block M on all that was there is as it was. -/
structure Kp (M : Nat) (w w' : World) : Prop where
  size : w.heap.size ≤ w'.heap.size
  block : ∀ k, M ≤ k → k < w.heap.size → w'.heap[k]? = w.heap[k]?
theorem Kp.refl (M : Nat) (w : World) : Kp M w w := ⟨Nat.le_refl _, fun _ _ _ => rfl⟩
theorem Kp.trans {M : Nat} {a b c : World} (h : Kp M a b) (k : Kp M b c) : Kp M a c := ⟨Nat.le_trans h.size k.size, fun i h1 h2 => (k.block i h1 (Nat.lt_of_lt_of_le h2 h.size)).trans (h.block i h1 h2)⟩
theorem Kp.below {M : Nat} {w w' : World} (h : Below w.heap.size w w') : Kp M w w' := ⟨h.size, fun k _ h2 => h.block k h2⟩
theorem Kp.set {M : Nat} {a w : World} (h : Kp M a w) {p : Addr} (hp : p.block < M) (u : Value) : Kp M a (w.setCell p u) :=
  h.trans ⟨by simp [World.setCell], fun k hk _ => Below.heap_setCell _ _ _ _ (by omega)⟩
theorem Kp.put6 {M g : Nat} {a w : World} (h : Kp M a w) (hg : g < M) (v0 v1 v2 v3 v4 v5 : Value) : Kp M a ((((((w.setCell ⟨g, 0, none⟩ v0).setCell ⟨g, 1, none⟩ v1).setCell ⟨g, 2, none⟩ v2).setCell ⟨g, 3, none⟩ v3).setCell ⟨g, 4, none⟩ v4).setCell ⟨g, 5, none⟩ v5) :=
  (((((h.set hg _).set hg _).set hg _).set hg _).set hg _).set hg _
theorem Kp.sl {M A c : Nat} {w w' : World} {xs : List ByteArray} (h : SLA w (some ⟨A, 0, none⟩) c xs) (hA : M ≤ A) (hK : Kp M w w') : SL w' (.slice (some ⟨A, 0, none⟩) xs.length c) xs := by
  by_cases hne : xs = []
  · exact .inl ⟨hne, _, _, by rw [hne]; rfl⟩
  · obtain ⟨b, o, h1, h2⟩ := h.at_
    obtain ⟨e, hb⟩ := h1 hne
    injection e with e
    injection e with e1 e2
    subst e1 e2
    exact .inr ⟨A, 0, c, rfl, h.cap, h.max, Nat.lt_of_lt_of_le hb hK.size, fun j x hx => (World.cell?_of_block (w := w) (hK.block A hA hb)).trans (h2 j x hx)⟩
theorem Kp.sl2 {M : Nat} {w w' : World} {v : Value} {xs : List ByteArray} (h : SL w v xs) (hl : LowS M v xs) (hK : Kp M w w') : SL w' v xs := by
  rcases h with h1 | ⟨b, o, c, h1, h2, h3, h4, h5⟩
  · exact .inl h1
  · by_cases hne : xs = []
    · exact .inl ⟨hne, _, _, by rw [h1, hne]; rfl⟩
    · have hb := hl hne _ _ _ h1
      exact .inr ⟨b, o, c, h1, h2, h3, Nat.lt_of_lt_of_le h4 hK.size, fun j x hx => (World.cell?_of_block (w := w) (hK.block b hb h4)).trans (h5 j x hx)⟩
theorem Kp.fa {M : Nat} {α : Type} {enc : α → List Value} {size : Nat} {w w' : World} {a : Option Addr} {c : Nat} {xs : List α} (hf : Br.FA enc size w a c xs) (hb : xs ≠ [] → ∀ ad, a = some ad → M ≤ ad.block) (hK : Kp M w w') : Br.FA enc size w' a c xs := by
  obtain ⟨b, o, h1, h2⟩ := hf.at_
  by_cases hne : xs = []
  · subst hne
    exact ⟨hf.cap, hf.max, b, o, fun h9 => absurd rfl h9, fun j i x u hx => by simp at hx⟩
  · have h3 := hb hne _ (h1 hne).1
    exact ⟨hf.cap, hf.max, b, o, fun hn => ⟨(h1 hn).1, Nat.lt_of_lt_of_le (h1 hn).2 hK.size⟩, fun j i x u hx hu => (World.cell?_of_block (w := w) (hK.block b h3 (h1 hne).2)).trans (h2 j i x u hx hu)⟩
theorem QC.kp {B : Nat} {w w' : World} {q : Qy} {cs : List Value} (h : QC B w q cs) (hK : Kp B w w') : QC B w' q cs := by
  induction h with
  | mk hw hwb hl _ hf hfb ih => exact .mk (Kp.sl2 hw hwb hK) hwb hl (fun j k cs h1 h2 => ih j k cs h1 h2) (Kp.fa hf hfb hK) hfb
theorem Kp.fr {g M : Nat} {w w' : World} (h : Fr g w w') (hM : g < M) : Kp M w w' := ⟨h.size, fun k h1 h2 => h.block k (by omega) h2⟩
theorem Kp.mono {M M' : Nat} {w w' : World} (h : Kp M w w') (hM : M ≤ M') : Kp M' w w' := ⟨h.size, fun k h1 h2 => h.block k (by omega) h2⟩
theorem Res.get {g : Nat} {l : List Tok} {q : Qy} {r' : List Tok} {w w' : World} {e : Ending} (h : Res g l (some (q, r')) w e w') : ∃ o f a b sa sn sc ka kn kc, e = .returned (.agg #[.int .i64 o, .int .i64 f, .slice sa sn sc, .int .i64 a, .int .i64 b, .slice ka kn kc]) ∧ QC w.heap.size w' q [.int .i64 o, .int .i64 f, .slice sa sn sc, .int .i64 a, .int .i64 b, .slice ka kn kc] ∧ PS g l r' w' ∧ Fr g w w' := by
  obtain ⟨⟨o, f, sa, sn, sc, a, b, ka, kn, kc⟩, h1, h2, h3, h4⟩ := h
  exact ⟨o, f, a, b, sa, sn, sc, ka, kn, kc, h1, h2, h3, h4⟩
theorem Res.bad {g : Nat} {l : List Tok} {w w' : World} {e : Ending} (h : Res g l none w e w') : e = .panicked [{ v := wrongP, recovered := false }] ∧ Fr g w w' := h
theorem Fr.put6 {g R : Nat} {a w : World} (h : Fr g a w) (hg : a.heap.size ≤ R) (v0 v1 v2 v3 v4 v5 : Value) : Fr g a ((((((w.setCell ⟨R, 0, none⟩ v0).setCell ⟨R, 1, none⟩ v1).setCell ⟨R, 2, none⟩ v2).setCell ⟨R, 3, none⟩ v3).setCell ⟨R, 4, none⟩ v4).setCell ⟨R, 5, none⟩ v5) :=
  (((((h.setNew hg _).setNew hg _).setNew hg _).setNew hg _).setNew hg _).setNew hg _
theorem far6 {g R : Nat} {w : World} {o : Obj} (h : w.heap[g]? = some o) (hg : g ≠ R) (v0 v1 v2 v3 v4 v5 : Value) : ((((((w.setCell ⟨R, 0, none⟩ v0).setCell ⟨R, 1, none⟩ v1).setCell ⟨R, 2, none⟩ v2).setCell ⟨R, 3, none⟩ v3).setCell ⟨R, 4, none⟩ v4).setCell ⟨R, 5, none⟩ v5).heap[g]? = some o :=
  Tx.blk_far (Tx.blk_far (Tx.blk_far (Tx.blk_far (Tx.blk_far (Tx.blk_far h hg _) hg _) hg _) hg _) hg _) hg _
theorem PS.of' {g : Nat} {l r r' : List Tok} {w w' : World} {ta : Option Addr} {tc : Nat} {v : Value} {m : Int} (h : PS g l r w) (hk : w.heap[g]? = some (.cells #[.slice ta l.length tc, v] 44 (0, 0))) (hB : Below g w w') (hr : r' <:+ r)
    (hk' : w'.heap[g]? = some (.cells #[.slice ta l.length tc, .int .i64 m] 44 (0, 0))) (hm : m = ((l.length - r'.length : Nat) : Int)) : PS g l r' w' := by
  have hgp : GP g w' := by
    obtain ⟨w0, h1, h2, h3⟩ := h.gp
    exact ⟨w0, h1, h2, h3.trans (hB.mono h2)⟩
  obtain ⟨ta2, tc2, h1, h2, h3⟩ := h.blk
  rw [hk] at h1
  injection h1 with h1
  simp only [Obj.cells.injEq, Array.mk.injEq, List.cons.injEq, Value.slice.injEq] at h1
  obtain ⟨⟨⟨rfl, _, rfl⟩, _⟩, _⟩ := h1
  refine ⟨hr.trans h.suf, h.len, h.ok, hgp, ta, tc, by rw [← hm]; exact hk', ?_, h3⟩
  obtain ⟨b, o, f1, f2⟩ := h2.at_
  refine ⟨h2.cap, h2.max, b, o, fun hn => ⟨(f1 hn).1, Nat.lt_of_lt_of_le (f1 hn).2 hB.size⟩, fun j i x u hx hu => ?_⟩
  have hne : l ≠ [] := by intro h0; rw [h0] at hx; simp at hx
  have hb := h3 _ (f1 hne).1
  exact (World.cell?_of_block (w := w) (hB.block b hb)).trans (f2 j i x u hx hu)
theorem PS.of {g : Nat} {l r r' : List Tok} {w w' : World} {ta : Option Addr} {tc : Nat} {v : Value} {m : Int} (h : PS g l r w) (hk : w.heap[g]? = some (.cells #[.slice ta l.length tc, v] 44 (0, 0))) (hF : Fr g w w') (hr : r' <:+ r)
    (hk' : w'.heap[g]? = some (.cells #[.slice ta l.length tc, .int .i64 m] 44 (0, 0))) (hm : m = ((l.length - r'.length : Nat) : Int)) : PS g l r' w' :=
  h.of' hk (hF.below (Nat.le_refl _) h.lt) hr hk' hm
end Qr
end Go.Proofs.YtkahplbjbidemaaGreatDoor

/- A term is read: what the program's call does (where the next token is no sign of a field). -/
namespace Go.Proofs.YtkahplbjbidemaaGreatDoor
open Go.RowKit
set_option maxRecDepth 100000
attribute [local go_sem] Qr.run_tok0 Qr.run_tok1 Qr.run_tok2

theorem Qr.KA.nil (B : Nat) (w : World) : Qr.KA B w none 0 [] :=
  ⟨[], rfl, fun j k cs h => by simp at h, ⟨Nat.le_refl _, by simp, 0, 0, fun h => absurd rfl h, fun j i x u h => by simp at h⟩, fun h => absurd rfl h⟩

set_option maxHeartbeats 1600000 in
theorem term_nil (g : Nat) (l r : List Qr.Tok) (w : World) (hP : Qr.PS g l r w) (kk nk : UInt8) (tt nt : List UInt8) (tg ng : Bool) (K N : Int) (ht : Qr.lk r = ⟨kk, tt, tg⟩) (hK : (kk.toNat : Int) = K) (hn : Qr.lk1 r = ⟨nk, nt, ng⟩) (hN : (nk.toNat : Int) = N) (hk0 : kk ≠ 0) (hpass : (K == 114) = false ∨ (K = 114 ∧ (N == 58) = false) ∨ (K = 114 ∧ N = 58 ∧ ng = false)) (hx : Qr.wordsB tt = []) :
    Calls Tryz.prog 96 #[.pointer (some ⟨g, 0, none⟩)] w fun e w' => e = .panicked [{ v := Qr.wrongP, recovered := false }] ∧ Qr.Fr g w w' := by
  have hk1 : (Qr.lk r).k ≠ 0 := by rw [ht]; exact hk0
  have htok := hP.tok hk1
  rw [ht] at htok
  simp only at htok
  have hsz : (⟨tt.toArray⟩ : ByteArray).size ≤ 1000000000 := by rw [Tx.size_mk]; omega
  have hte := Qr.tail_eats hk1
  have hsl := hP.suf.length_le
  have hll := hP.len
  have L0 := fun w h => look0 (K := K) (w := w) (g := g) (l := l) ht hK h
  have L1 := fun w h => look1 (K := N) (w := w) (g := g) (l := l) hn hN h
  have L2 := fun w h => look0 (r := r.tail) (K := N) (w := w) (g := g) (l := l) hn hN h
  obtain ⟨ta, tc, kg, _, _⟩ := hP.blk
  obtain ⟨A, hA⟩ : ∃ A, l.length - r.length = A := ⟨_, rfl⟩
  rw [hA] at kg
  have hA1 : (A : Int) + 1 = ((l.length - r.tail.length : Nat) : Int) := by have := hte.2; rw [List.length_tail] at this ⊢; omega
  have hw1 := IntWalk.i64_in ((A : Int) + 1) ⟨by omega, by omega⟩
  have hw2 := IntWalk.i64_in ((A : Int) + 1 + 1) ⟨by omega, by omega⟩
  have hgl := hP.lt
  have hP0 := hP.below (Tx.newb w (.cells Qr.zeroQ 25))
  obtain ⟨xs0, hxs0⟩ : ∃ xs0, Qr.wordsB tt = xs0 := ⟨_, rfl⟩
  have HXS := Lib.hid hxs0; clear hxs0
  have KG := Lib.hid kg; clear kg
  have HA1 := Lib.hid hA1; clear hA1
  have HV := Lib.hid htok.1; clear htok
  have HTE := Lib.hid hte; clear hte
  have HPP := Lib.hid hP; clear hP
  clear ht hn hK hN hk0 hA hk1
  have hx0 : xs0 = [] := by rw [← HXS.out]; exact hx
  clear hx
  subst hx0
  rcases hpass with hp | ⟨rfl, hp⟩ | ⟨rfl, rfl, rfl⟩
  · go_enter Tryz.func96, Tryz.ntmps96
    go_wp2_with (first
      | (go_at_call 68; refine (text_Words_c ⟨tt.toArray⟩ ((w2.alloc (.cells #[.int .u8 N, .string ⟨nt.toArray⟩, .bool ng] 77)).setCell ⟨g, 1, none⟩ (.int .i64 ((A : Int) + 1))) hPS3.gp.g hsz HV.out).mono ?_; rintro e w4 ⟨A', xs, rfl, hws, hSLA, hA', hb4⟩; obtain rfl : xs = [] := (by rw [← HXS.out]; exact Qr.wordsB_bys hws); clear hws; have s4 := hb4.size; have hPS4 := hPS3.below hb4; have KG4 := Lib.hid (Tx.blk_later KG3.out hb4); have KT4 := Lib.hid (Tx.blk_later KT3.out hb4); have KR4 := Lib.hid (Tx.blk_later KR3.out hb4); have hF4 := hF3.trans (.of_below hb4); clear eg fg e30 e31)
      | (go_at_call 76; refine (L1 _ (hP1.below (Tx.newb _ _))).mono ?_; rintro e w2 ⟨rfl, hb2⟩; have s1 : w.heap.size < w1.heap.size := (by have := hb1.size; simp at this; omega); have s2 : w1.heap.size < w2.heap.size := (by have := hb2.size; simp at this; omega); have kT2 : (w2.alloc (.cells #[.int .u8 N, .string ⟨nt.toArray⟩, .bool ng] 77)).heap[w1.heap.size]? = some (.cells #[.int .u8 K, .string ⟨tt.toArray⟩, .bool tg] 77 (0, 0)) := Tx.blk_later (Tx.blk_later (heap_alloc_new w1 (.cells #[.int .u8 K, .string ⟨tt.toArray⟩, .bool tg] 77)) hb2) (Tx.newb w2 _); have kg2 : (w2.alloc (.cells #[.int .u8 N, .string ⟨nt.toArray⟩, .bool ng] 77)).heap[g]? = some (.cells #[.slice ta l.length tc, .int .i64 (A : Int)] 44 (0, 0)) := Tx.blk_later (Tx.blk_later (Tx.blk_later (Tx.blk_later (Tx.blk_later KG.out (Tx.newb _ _)) hb1) (Tx.newb _ _)) hb2) (Tx.newb w2 _); have kR2 : (w2.alloc (.cells #[.int .u8 N, .string ⟨nt.toArray⟩, .bool ng] 77)).heap[w.heap.size]? = some (.cells Qr.zeroQ 25 (0, 0)) := Tx.blk_later (Tx.blk_later (Tx.blk_later (Tx.blk_later (heap_alloc_new w _) hb1) (Tx.newb _ _)) hb2) (Tx.newb w2 _); have hF2 : Qr.Fr g w (w2.alloc (.cells #[.int .u8 N, .string ⟨nt.toArray⟩, .bool ng] 77)) := (((((Qr.Fr.refl g w).alloc _).trans (.of_below hb1)).alloc _).trans (.of_below hb2)).alloc _; have e30 : (w2.alloc (.cells #[.int .u8 N, .string ⟨nt.toArray⟩, .bool ng] 77)).cell? ⟨w1.heap.size, 0, none⟩ = some (.int .u8 K) := (Tx.blk kT2).1 0; have e31 : ∀ v, ((w2.alloc (.cells #[.int .u8 N, .string ⟨nt.toArray⟩, .bool ng] 77)).setCell ⟨g, 1, none⟩ v).cell? ⟨w1.heap.size, 1, none⟩ = some (.string ⟨tt.toArray⟩) := (fun v => (Tx.blk (Tx.blk_far kT2 (show w1.heap.size ≠ g by omega) v)).1 1); have eg : (w2.alloc (.cells #[.int .u8 N, .string ⟨nt.toArray⟩, .bool ng] 77)).cell? ⟨g, 1, none⟩ = some (.int .i64 (A : Int)) := (Tx.blk kg2).1 1; have fg : ∀ i, (w2.alloc (.cells #[.int .u8 N, .string ⟨nt.toArray⟩, .bool ng] 77)).frozen? ⟨g, i, none⟩ = false := (Tx.blk kg2).2.1; have kg3 : ((w2.alloc (.cells #[.int .u8 N, .string ⟨nt.toArray⟩, .bool ng] 77)).setCell ⟨g, 1, none⟩ (.int .i64 ((A : Int) + 1))).heap[g]? = some (.cells #[.slice ta l.length tc, .int .i64 ((A : Int) + 1)] 44 (0, 0)) := Qr.blk_set1 kg2 _; have hF3 : Qr.Fr g w ((w2.alloc (.cells #[.int .u8 N, .string ⟨nt.toArray⟩, .bool ng] 77)).setCell ⟨g, 1, none⟩ (.int .i64 ((A : Int) + 1))) := hF2.set rfl _; have hPS3 : Qr.PS g l r.tail ((w2.alloc (.cells #[.int .u8 N, .string ⟨nt.toArray⟩, .bool ng] 77)).setCell ⟨g, 1, none⟩ (.int .i64 ((A : Int) + 1))) := Qr.PS.of HPP.out KG.out hF3 HTE.out.1 kg3 HA1.out; have kT3 := Tx.blk_far (a := ⟨g, 1, none⟩) kT2 (show w1.heap.size ≠ g by omega) (.int .i64 ((A : Int) + 1)); have kR3 := Tx.blk_far (a := ⟨g, 1, none⟩) kR2 (show w.heap.size ≠ g by omega) (.int .i64 ((A : Int) + 1)); have KG3 := Lib.hid kg3; have KT3 := Lib.hid kT3; have KR3 := Lib.hid kR3; clear kg2 kT2 kR2 kg3 kT3 kR3)
      | (go_at_call 76; refine (L0 _ hP0).mono ?_; rintro e w1 ⟨rfl, hb1⟩; have hP1 := hP0.below hb1))
    exact ⟨rfl, rfl, hF4⟩
  · go_enter Tryz.func96, Tryz.ntmps96
    go_wp2_with (first
      | (go_at_call 68; refine (text_Words_c ⟨tt.toArray⟩ ((w2.alloc (.cells #[.int .u8 N, .string ⟨nt.toArray⟩, .bool ng] 77)).setCell ⟨g, 1, none⟩ (.int .i64 ((A : Int) + 1))) hPS3.gp.g hsz HV.out).mono ?_; rintro e w4 ⟨A', xs, rfl, hws, hSLA, hA', hb4⟩; obtain rfl : xs = [] := (by rw [← HXS.out]; exact Qr.wordsB_bys hws); clear hws; have s4 := hb4.size; have hPS4 := hPS3.below hb4; have KG4 := Lib.hid (Tx.blk_later KG3.out hb4); have KT4 := Lib.hid (Tx.blk_later KT3.out hb4); have KR4 := Lib.hid (Tx.blk_later KR3.out hb4); have hF4 := hF3.trans (.of_below hb4); clear eg fg e30 e31)
      | (go_at_call 76; refine (L1 _ (hP1.below (Tx.newb _ _))).mono ?_; rintro e w2 ⟨rfl, hb2⟩; have s1 : w.heap.size < w1.heap.size := (by have := hb1.size; simp at this; omega); have s2 : w1.heap.size < w2.heap.size := (by have := hb2.size; simp at this; omega); have kT2 : (w2.alloc (.cells #[.int .u8 N, .string ⟨nt.toArray⟩, .bool ng] 77)).heap[w1.heap.size]? = some (.cells #[.int .u8 114, .string ⟨tt.toArray⟩, .bool tg] 77 (0, 0)) := Tx.blk_later (Tx.blk_later (heap_alloc_new w1 (.cells #[.int .u8 114, .string ⟨tt.toArray⟩, .bool tg] 77)) hb2) (Tx.newb w2 _); have kg2 : (w2.alloc (.cells #[.int .u8 N, .string ⟨nt.toArray⟩, .bool ng] 77)).heap[g]? = some (.cells #[.slice ta l.length tc, .int .i64 (A : Int)] 44 (0, 0)) := Tx.blk_later (Tx.blk_later (Tx.blk_later (Tx.blk_later (Tx.blk_later KG.out (Tx.newb _ _)) hb1) (Tx.newb _ _)) hb2) (Tx.newb w2 _); have kR2 : (w2.alloc (.cells #[.int .u8 N, .string ⟨nt.toArray⟩, .bool ng] 77)).heap[w.heap.size]? = some (.cells Qr.zeroQ 25 (0, 0)) := Tx.blk_later (Tx.blk_later (Tx.blk_later (Tx.blk_later (heap_alloc_new w _) hb1) (Tx.newb _ _)) hb2) (Tx.newb w2 _); have hF2 : Qr.Fr g w (w2.alloc (.cells #[.int .u8 N, .string ⟨nt.toArray⟩, .bool ng] 77)) := (((((Qr.Fr.refl g w).alloc _).trans (.of_below hb1)).alloc _).trans (.of_below hb2)).alloc _; have e30 : (w2.alloc (.cells #[.int .u8 N, .string ⟨nt.toArray⟩, .bool ng] 77)).cell? ⟨w1.heap.size, 0, none⟩ = some (.int .u8 114) := (Tx.blk kT2).1 0; have e31 : ∀ v, ((w2.alloc (.cells #[.int .u8 N, .string ⟨nt.toArray⟩, .bool ng] 77)).setCell ⟨g, 1, none⟩ v).cell? ⟨w1.heap.size, 1, none⟩ = some (.string ⟨tt.toArray⟩) := (fun v => (Tx.blk (Tx.blk_far kT2 (show w1.heap.size ≠ g by omega) v)).1 1); have eg : (w2.alloc (.cells #[.int .u8 N, .string ⟨nt.toArray⟩, .bool ng] 77)).cell? ⟨g, 1, none⟩ = some (.int .i64 (A : Int)) := (Tx.blk kg2).1 1; have fg : ∀ i, (w2.alloc (.cells #[.int .u8 N, .string ⟨nt.toArray⟩, .bool ng] 77)).frozen? ⟨g, i, none⟩ = false := (Tx.blk kg2).2.1; have kg3 : ((w2.alloc (.cells #[.int .u8 N, .string ⟨nt.toArray⟩, .bool ng] 77)).setCell ⟨g, 1, none⟩ (.int .i64 ((A : Int) + 1))).heap[g]? = some (.cells #[.slice ta l.length tc, .int .i64 ((A : Int) + 1)] 44 (0, 0)) := Qr.blk_set1 kg2 _; have hF3 : Qr.Fr g w ((w2.alloc (.cells #[.int .u8 N, .string ⟨nt.toArray⟩, .bool ng] 77)).setCell ⟨g, 1, none⟩ (.int .i64 ((A : Int) + 1))) := hF2.set rfl _; have hPS3 : Qr.PS g l r.tail ((w2.alloc (.cells #[.int .u8 N, .string ⟨nt.toArray⟩, .bool ng] 77)).setCell ⟨g, 1, none⟩ (.int .i64 ((A : Int) + 1))) := Qr.PS.of HPP.out KG.out hF3 HTE.out.1 kg3 HA1.out; have kT3 := Tx.blk_far (a := ⟨g, 1, none⟩) kT2 (show w1.heap.size ≠ g by omega) (.int .i64 ((A : Int) + 1)); have kR3 := Tx.blk_far (a := ⟨g, 1, none⟩) kR2 (show w.heap.size ≠ g by omega) (.int .i64 ((A : Int) + 1)); have KG3 := Lib.hid kg3; have KT3 := Lib.hid kT3; have KR3 := Lib.hid kR3; clear kg2 kT2 kR2 kg3 kT3 kR3)
      | (go_at_call 76; refine (L0 _ hP0).mono ?_; rintro e w1 ⟨rfl, hb1⟩; have hP1 := hP0.below hb1))
    exact ⟨rfl, rfl, hF4⟩
  · go_enter Tryz.func96, Tryz.ntmps96
    go_wp2_with (first
      | (go_at_call 68; refine (text_Words_c ⟨tt.toArray⟩ ((w2.alloc (.cells #[.int .u8 58, .string ⟨nt.toArray⟩, .bool false] 77)).setCell ⟨g, 1, none⟩ (.int .i64 ((A : Int) + 1))) hPS3.gp.g hsz HV.out).mono ?_; rintro e w4 ⟨A', xs, rfl, hws, hSLA, hA', hb4⟩; obtain rfl : xs = [] := (by rw [← HXS.out]; exact Qr.wordsB_bys hws); clear hws; have s4 := hb4.size; have hPS4 := hPS3.below hb4; have KG4 := Lib.hid (Tx.blk_later KG3.out hb4); have KT4 := Lib.hid (Tx.blk_later KT3.out hb4); have KR4 := Lib.hid (Tx.blk_later KR3.out hb4); have hF4 := hF3.trans (.of_below hb4); clear eg fg e30 e31)
      | (go_at_call 76; refine (L1 _ (hP1.below (Tx.newb _ _))).mono ?_; rintro e w2 ⟨rfl, hb2⟩; have s1 : w.heap.size < w1.heap.size := (by have := hb1.size; simp at this; omega); have s2 : w1.heap.size < w2.heap.size := (by have := hb2.size; simp at this; omega); have kT2 : (w2.alloc (.cells #[.int .u8 58, .string ⟨nt.toArray⟩, .bool false] 77)).heap[w1.heap.size]? = some (.cells #[.int .u8 114, .string ⟨tt.toArray⟩, .bool tg] 77 (0, 0)) := Tx.blk_later (Tx.blk_later (heap_alloc_new w1 (.cells #[.int .u8 114, .string ⟨tt.toArray⟩, .bool tg] 77)) hb2) (Tx.newb w2 _); have kg2 : (w2.alloc (.cells #[.int .u8 58, .string ⟨nt.toArray⟩, .bool false] 77)).heap[g]? = some (.cells #[.slice ta l.length tc, .int .i64 (A : Int)] 44 (0, 0)) := Tx.blk_later (Tx.blk_later (Tx.blk_later (Tx.blk_later (Tx.blk_later KG.out (Tx.newb _ _)) hb1) (Tx.newb _ _)) hb2) (Tx.newb w2 _); have kR2 : (w2.alloc (.cells #[.int .u8 58, .string ⟨nt.toArray⟩, .bool false] 77)).heap[w.heap.size]? = some (.cells Qr.zeroQ 25 (0, 0)) := Tx.blk_later (Tx.blk_later (Tx.blk_later (Tx.blk_later (heap_alloc_new w _) hb1) (Tx.newb _ _)) hb2) (Tx.newb w2 _); have hF2 : Qr.Fr g w (w2.alloc (.cells #[.int .u8 58, .string ⟨nt.toArray⟩, .bool false] 77)) := (((((Qr.Fr.refl g w).alloc _).trans (.of_below hb1)).alloc _).trans (.of_below hb2)).alloc _; have e30 : (w2.alloc (.cells #[.int .u8 58, .string ⟨nt.toArray⟩, .bool false] 77)).cell? ⟨w1.heap.size, 0, none⟩ = some (.int .u8 114) := (Tx.blk kT2).1 0; have e31 : ∀ v, ((w2.alloc (.cells #[.int .u8 58, .string ⟨nt.toArray⟩, .bool false] 77)).setCell ⟨g, 1, none⟩ v).cell? ⟨w1.heap.size, 1, none⟩ = some (.string ⟨tt.toArray⟩) := (fun v => (Tx.blk (Tx.blk_far kT2 (show w1.heap.size ≠ g by omega) v)).1 1); have eg : (w2.alloc (.cells #[.int .u8 58, .string ⟨nt.toArray⟩, .bool false] 77)).cell? ⟨g, 1, none⟩ = some (.int .i64 (A : Int)) := (Tx.blk kg2).1 1; have fg : ∀ i, (w2.alloc (.cells #[.int .u8 58, .string ⟨nt.toArray⟩, .bool false] 77)).frozen? ⟨g, i, none⟩ = false := (Tx.blk kg2).2.1; have kg3 : ((w2.alloc (.cells #[.int .u8 58, .string ⟨nt.toArray⟩, .bool false] 77)).setCell ⟨g, 1, none⟩ (.int .i64 ((A : Int) + 1))).heap[g]? = some (.cells #[.slice ta l.length tc, .int .i64 ((A : Int) + 1)] 44 (0, 0)) := Qr.blk_set1 kg2 _; have hF3 : Qr.Fr g w ((w2.alloc (.cells #[.int .u8 58, .string ⟨nt.toArray⟩, .bool false] 77)).setCell ⟨g, 1, none⟩ (.int .i64 ((A : Int) + 1))) := hF2.set rfl _; have hPS3 : Qr.PS g l r.tail ((w2.alloc (.cells #[.int .u8 58, .string ⟨nt.toArray⟩, .bool false] 77)).setCell ⟨g, 1, none⟩ (.int .i64 ((A : Int) + 1))) := Qr.PS.of HPP.out KG.out hF3 HTE.out.1 kg3 HA1.out; have kT3 := Tx.blk_far (a := ⟨g, 1, none⟩) kT2 (show w1.heap.size ≠ g by omega) (.int .i64 ((A : Int) + 1)); have kR3 := Tx.blk_far (a := ⟨g, 1, none⟩) kR2 (show w.heap.size ≠ g by omega) (.int .i64 ((A : Int) + 1)); have KG3 := Lib.hid kg3; have KT3 := Lib.hid kT3; have KR3 := Lib.hid kR3; clear kg2 kT2 kR2 kg3 kT3 kR3)
      | (go_at_call 76; refine (L0 _ hP0).mono ?_; rintro e w1 ⟨rfl, hb1⟩; have hP1 := hP0.below hb1))
    exact ⟨rfl, rfl, hF4⟩

set_option maxHeartbeats 3200000 in
theorem term_plain (g : Nat) (l r : List Qr.Tok) (w : World) (hP : Qr.PS g l r w) (kk nk : UInt8) (tt nt : List UInt8) (tg ng : Bool) (K N : Int) (ht : Qr.lk r = ⟨kk, tt, tg⟩) (hK : (kk.toNat : Int) = K) (hn : Qr.lk1 r = ⟨nk, nt, ng⟩) (hN : (nk.toNat : Int) = N) (hk0 : kk ≠ 0) (hpass : (K == 114) = false ∨ (K = 114 ∧ (N == 58) = false) ∨ (K = 114 ∧ N = 58 ∧ ng = false)) (hx : Qr.wordsB tt ≠ []) (hstar : (K == 114) = false ∨ (K = 114 ∧ (N == 42) = false) ∨ (K = 114 ∧ N = 42 ∧ ng = false)) :
    Calls Tryz.prog 96 #[.pointer (some ⟨g, 0, none⟩)] w fun e w' => Qr.Res g l (some (.mk (if K = 114 ∧ (Qr.wordsB tt).length = 1 then 1 else 3) 0 (Qr.wordsB tt) 0 0 [], r.tail)) w e w' := by
  have hk1 : (Qr.lk r).k ≠ 0 := by rw [ht]; exact hk0
  have htok := hP.tok hk1
  rw [ht] at htok
  simp only at htok
  have hsz : (⟨tt.toArray⟩ : ByteArray).size ≤ 1000000000 := by rw [Tx.size_mk]; omega
  have hte := Qr.tail_eats hk1
  have hsl := hP.suf.length_le
  have hll := hP.len
  have L0 := fun w h => look0 (K := K) (w := w) (g := g) (l := l) ht hK h
  have L1 := fun w h => look1 (K := N) (w := w) (g := g) (l := l) hn hN h
  have L2 := fun w h => look0 (r := r.tail) (K := N) (w := w) (g := g) (l := l) hn hN h
  obtain ⟨ta, tc, kg, _, _⟩ := hP.blk
  obtain ⟨A, hA⟩ : ∃ A, l.length - r.length = A := ⟨_, rfl⟩
  rw [hA] at kg
  have hA1 : (A : Int) + 1 = ((l.length - r.tail.length : Nat) : Int) := by have := hte.2; rw [List.length_tail] at this ⊢; omega
  have hw1 := IntWalk.i64_in ((A : Int) + 1) ⟨by omega, by omega⟩
  have hw2 := IntWalk.i64_in ((A : Int) + 1 + 1) ⟨by omega, by omega⟩
  have hgl := hP.lt
  have hP0 := hP.below (Tx.newb w (.cells Qr.zeroQ 25))
  obtain ⟨xs0, hxs0⟩ : ∃ xs0, Qr.wordsB tt = xs0 := ⟨_, rfl⟩
  have HXS := Lib.hid hxs0; clear hxs0
  have KG := Lib.hid kg; clear kg
  have HA1 := Lib.hid hA1; clear hA1
  have HV := Lib.hid htok.1; clear htok
  have HTE := Lib.hid hte; clear hte
  have HPP := Lib.hid hP; clear hP
  clear ht hn hK hN hk0 hA hk1
  have hx0 : xs0 ≠ [] := by rw [← HXS.out]; exact hx
  rw [HXS.out]
  clear hx
  have hxn : ((xs0.length : Int) == 0) = false := beq_eq_false_iff_ne.2 (fun h => hx0 (List.eq_nil_of_length_eq_zero (by omega)))
  have hxn2 : ¬ ((xs0.length : Int) = 0) := fun h => hx0 (List.eq_nil_of_length_eq_zero (by omega))
  clear hx0
  obtain ⟨OP, hOP⟩ : ∃ OP : Int, (if K = 114 ∧ xs0.length = 1 then 1 else 3) = OP := ⟨_, rfl⟩
  rw [hOP]
  have HOP := Lib.hid hOP; clear hOP
  have hsp : ((K == 114) = false) ∨ (K = 114 ∧ (N == 58) = false ∧ (N == 42) = false) ∨ (K = 114 ∧ N = 58 ∧ ng = false) ∨ (K = 114 ∧ N = 42 ∧ ng = false) := by
    rcases hpass with h | ⟨h1, h2⟩ | ⟨h1, h2, h3⟩
    · exact .inl h
    · rcases hstar with h | ⟨_, h4⟩ | ⟨_, h4, h5⟩
      · exact .inl h
      · exact .inr (.inl ⟨h1, h2, h4⟩)
      · exact .inr (.inr (.inr ⟨h1, h4, h5⟩))
    · exact .inr (.inr (.inl ⟨h1, h2, h3⟩))
  clear hpass hstar
  rcases hsp with hp | ⟨rfl, hp, hp2⟩ | ⟨rfl, rfl, rfl⟩ | ⟨rfl, rfl, rfl⟩
  · have hO : OP = 3 := by rw [← HOP.out, if_neg (fun h => by rw [h.1] at hp; simp at hp)]
    subst hO; clear HOP
    go_enter Tryz.func96, Tryz.ntmps96
    go_wp2_with (first
      | (go_at_call 76; refine (L2 _ hPS4).mono ?_; rintro e w5 ⟨rfl, hb5⟩; have s5 := hb5.size; have kT5 : (w5.alloc (.cells #[.int .u8 N, .string ⟨nt.toArray⟩, .bool ng] 77)).heap[w1.heap.size]? = some (.cells #[.int .u8 K, .string ⟨tt.toArray⟩, .bool tg] 77 (0, 0)) := Tx.blk_later (Tx.blk_later KT4.out hb5) (Tx.newb _ _); have kR5 : (w5.alloc (.cells #[.int .u8 N, .string ⟨nt.toArray⟩, .bool ng] 77)).heap[w.heap.size]? = some (.cells Qr.zeroQ 25 (0, 0)) := Tx.blk_later (Tx.blk_later KR4.out hb5) (Tx.newb _ _); have kg5 : (w5.alloc (.cells #[.int .u8 N, .string ⟨nt.toArray⟩, .bool ng] 77)).heap[g]? = some (.cells #[.slice ta l.length tc, .int .i64 ((A : Int) + 1)] 44 (0, 0)) := Tx.blk_later (Tx.blk_later KG4.out hb5) (Tx.newb _ _); have hF5 : Qr.Fr g w (w5.alloc (.cells #[.int .u8 N, .string ⟨nt.toArray⟩, .bool ng] 77)) := (hF4.trans (.of_below hb5)).alloc _; have e50 : (w5.alloc (.cells #[.int .u8 N, .string ⟨nt.toArray⟩, .bool ng] 77)).cell? ⟨w1.heap.size, 0, none⟩ = some (.int .u8 K) := (Tx.blk kT5).1 0; obtain ⟨kc5, kf5, kl5⟩ := Tx.blk kR5; have z0 : (w5.alloc (.cells #[.int .u8 N, .string ⟨nt.toArray⟩, .bool ng] 77)).cell? ⟨w.heap.size, 0, none⟩ = some (.int .i64 0) := kc5 0; have z1 : (w5.alloc (.cells #[.int .u8 N, .string ⟨nt.toArray⟩, .bool ng] 77)).cell? ⟨w.heap.size, 1, none⟩ = some (.int .i64 0) := kc5 1; have z2 : (w5.alloc (.cells #[.int .u8 N, .string ⟨nt.toArray⟩, .bool ng] 77)).cell? ⟨w.heap.size, 2, none⟩ = some (.slice none 0 0) := kc5 2; have z3 : (w5.alloc (.cells #[.int .u8 N, .string ⟨nt.toArray⟩, .bool ng] 77)).cell? ⟨w.heap.size, 3, none⟩ = some (.int .i64 0) := kc5 3; have z4 : (w5.alloc (.cells #[.int .u8 N, .string ⟨nt.toArray⟩, .bool ng] 77)).cell? ⟨w.heap.size, 4, none⟩ = some (.int .i64 0) := kc5 4; have z5 : (w5.alloc (.cells #[.int .u8 N, .string ⟨nt.toArray⟩, .bool ng] 77)).cell? ⟨w.heap.size, 5, none⟩ = some (.slice none 0 0) := kc5 5; have eg5 : (w5.alloc (.cells #[.int .u8 N, .string ⟨nt.toArray⟩, .bool ng] 77)).cell? ⟨g, 1, none⟩ = some (.int .i64 ((A : Int) + 1)) := (Tx.blk kg5).1 1; have fg5 : ∀ i, (w5.alloc (.cells #[.int .u8 N, .string ⟨nt.toArray⟩, .bool ng] 77)).frozen? ⟨g, i, none⟩ = false := (Tx.blk kg5).2.1; have KG5 := Lib.hid kg5; have KR5 := Lib.hid kR5; clear kT5 kg5 kR5 kc5)
      | (go_at_call 68; refine (text_Words_c ⟨tt.toArray⟩ ((w2.alloc (.cells #[.int .u8 N, .string ⟨nt.toArray⟩, .bool ng] 77)).setCell ⟨g, 1, none⟩ (.int .i64 ((A : Int) + 1))) hPS3.gp.g hsz HV.out).mono ?_; rintro e w4 ⟨A', xs, rfl, hws, hSLA, hA', hb4⟩; obtain rfl : xs = xs0 := (by rw [← HXS.out]; exact Qr.wordsB_bys hws); clear hws; have s4 := hb4.size; have hPS4 := hPS3.below hb4; have KG4 := Lib.hid (Tx.blk_later KG3.out hb4); have KT4 := Lib.hid (Tx.blk_later KT3.out hb4); have KR4 := Lib.hid (Tx.blk_later KR3.out hb4); have hF4 := hF3.trans (.of_below hb4); clear eg fg e30 e31)
      | (go_at_call 76; refine (L1 _ (hP1.below (Tx.newb _ _))).mono ?_; rintro e w2 ⟨rfl, hb2⟩; have s1 : w.heap.size < w1.heap.size := (by have := hb1.size; simp at this; omega); have s2 : w1.heap.size < w2.heap.size := (by have := hb2.size; simp at this; omega); have kT2 : (w2.alloc (.cells #[.int .u8 N, .string ⟨nt.toArray⟩, .bool ng] 77)).heap[w1.heap.size]? = some (.cells #[.int .u8 K, .string ⟨tt.toArray⟩, .bool tg] 77 (0, 0)) := Tx.blk_later (Tx.blk_later (heap_alloc_new w1 (.cells #[.int .u8 K, .string ⟨tt.toArray⟩, .bool tg] 77)) hb2) (Tx.newb w2 _); have kg2 : (w2.alloc (.cells #[.int .u8 N, .string ⟨nt.toArray⟩, .bool ng] 77)).heap[g]? = some (.cells #[.slice ta l.length tc, .int .i64 (A : Int)] 44 (0, 0)) := Tx.blk_later (Tx.blk_later (Tx.blk_later (Tx.blk_later (Tx.blk_later KG.out (Tx.newb _ _)) hb1) (Tx.newb _ _)) hb2) (Tx.newb w2 _); have kR2 : (w2.alloc (.cells #[.int .u8 N, .string ⟨nt.toArray⟩, .bool ng] 77)).heap[w.heap.size]? = some (.cells Qr.zeroQ 25 (0, 0)) := Tx.blk_later (Tx.blk_later (Tx.blk_later (Tx.blk_later (heap_alloc_new w _) hb1) (Tx.newb _ _)) hb2) (Tx.newb w2 _); have hF2 : Qr.Fr g w (w2.alloc (.cells #[.int .u8 N, .string ⟨nt.toArray⟩, .bool ng] 77)) := (((((Qr.Fr.refl g w).alloc _).trans (.of_below hb1)).alloc _).trans (.of_below hb2)).alloc _; have e30 : (w2.alloc (.cells #[.int .u8 N, .string ⟨nt.toArray⟩, .bool ng] 77)).cell? ⟨w1.heap.size, 0, none⟩ = some (.int .u8 K) := (Tx.blk kT2).1 0; have e31 : ∀ v, ((w2.alloc (.cells #[.int .u8 N, .string ⟨nt.toArray⟩, .bool ng] 77)).setCell ⟨g, 1, none⟩ v).cell? ⟨w1.heap.size, 1, none⟩ = some (.string ⟨tt.toArray⟩) := (fun v => (Tx.blk (Tx.blk_far kT2 (show w1.heap.size ≠ g by omega) v)).1 1); have eg : (w2.alloc (.cells #[.int .u8 N, .string ⟨nt.toArray⟩, .bool ng] 77)).cell? ⟨g, 1, none⟩ = some (.int .i64 (A : Int)) := (Tx.blk kg2).1 1; have fg : ∀ i, (w2.alloc (.cells #[.int .u8 N, .string ⟨nt.toArray⟩, .bool ng] 77)).frozen? ⟨g, i, none⟩ = false := (Tx.blk kg2).2.1; have kg3 : ((w2.alloc (.cells #[.int .u8 N, .string ⟨nt.toArray⟩, .bool ng] 77)).setCell ⟨g, 1, none⟩ (.int .i64 ((A : Int) + 1))).heap[g]? = some (.cells #[.slice ta l.length tc, .int .i64 ((A : Int) + 1)] 44 (0, 0)) := Qr.blk_set1 kg2 _; have hF3 : Qr.Fr g w ((w2.alloc (.cells #[.int .u8 N, .string ⟨nt.toArray⟩, .bool ng] 77)).setCell ⟨g, 1, none⟩ (.int .i64 ((A : Int) + 1))) := hF2.set rfl _; have hPS3 : Qr.PS g l r.tail ((w2.alloc (.cells #[.int .u8 N, .string ⟨nt.toArray⟩, .bool ng] 77)).setCell ⟨g, 1, none⟩ (.int .i64 ((A : Int) + 1))) := Qr.PS.of HPP.out KG.out hF3 HTE.out.1 kg3 HA1.out; have kT3 := Tx.blk_far (a := ⟨g, 1, none⟩) kT2 (show w1.heap.size ≠ g by omega) (.int .i64 ((A : Int) + 1)); have kR3 := Tx.blk_far (a := ⟨g, 1, none⟩) kR2 (show w.heap.size ≠ g by omega) (.int .i64 ((A : Int) + 1)); have KG3 := Lib.hid kg3; have KT3 := Lib.hid kT3; have KR3 := Lib.hid kR3; clear kg2 kT2 kR2 kg3 kT3 kR3)
      | (go_at_call 76; refine (L0 _ hP0).mono ?_; rintro e w1 ⟨rfl, hb1⟩; have hP1 := hP0.below hb1))
    refine bodyPost_ret (v := .agg #[.int .i64 3, .int .i64 0, .slice (some ⟨A', 0, none⟩) xs.length xs.length, .int .i64 0, .int .i64 0, .slice none 0 0]) (by simp [results, Tryz.results96, go_sem, z0, z1, z2, z3, z4, z5]) rfl ⟨⟨3, 0, some ⟨A', 0, none⟩, xs.length, xs.length, 0, 0, none, 0, 0⟩, rfl, Qr.QC.of_kids (ks := []) (Qr.Kp.sl hSLA (by have := hA'; simp [World.setCell] at this; omega) (Qr.Kp.put6 (M := w.heap.size + 1) ((Qr.Kp.below hb5).trans (Qr.Kp.below (Tx.newb w5 _))) (by omega) _ _ _ _ _ _)) (fun _ ad l2 c2 e9 => by injection e9 with e9; injection e9 with e9; rw [← e9]; have := hA'; simp [World.setCell] at this; simp only; omega) (Qr.KA.nil _ _), Qr.PS.of HPP.out KG.out (Qr.Fr.put6 hF5 (Nat.le_refl _) _ _ _ _ _ _) HTE.out.1 (Qr.far6 KG5.out (show g ≠ w.heap.size by omega) _ _ _ _ _ _) HA1.out, (Qr.Fr.put6 hF5 (Nat.le_refl _) _ _ _ _ _ _)⟩
  · by_cases h1 : xs0.length = 1
    · have hO : OP = 1 := by rw [← HOP.out, if_pos ⟨rfl, h1⟩]
      subst hO; clear HOP
      have h1i : ((xs0.length : Int) == 1) = true := by rw [h1]; rfl
      have H1 := Lib.hid h1; clear h1
      go_enter Tryz.func96, Tryz.ntmps96
      go_wp2_with (first
        | (go_at_call 76; refine (L2 _ hPS4).mono ?_; rintro e w5 ⟨rfl, hb5⟩; have s5 := hb5.size; have kT5 : (w5.alloc (.cells #[.int .u8 N, .string ⟨nt.toArray⟩, .bool ng] 77)).heap[w1.heap.size]? = some (.cells #[.int .u8 114, .string ⟨tt.toArray⟩, .bool tg] 77 (0, 0)) := Tx.blk_later (Tx.blk_later KT4.out hb5) (Tx.newb _ _); have kR5 : (w5.alloc (.cells #[.int .u8 N, .string ⟨nt.toArray⟩, .bool ng] 77)).heap[w.heap.size]? = some (.cells Qr.zeroQ 25 (0, 0)) := Tx.blk_later (Tx.blk_later KR4.out hb5) (Tx.newb _ _); have kg5 : (w5.alloc (.cells #[.int .u8 N, .string ⟨nt.toArray⟩, .bool ng] 77)).heap[g]? = some (.cells #[.slice ta l.length tc, .int .i64 ((A : Int) + 1)] 44 (0, 0)) := Tx.blk_later (Tx.blk_later KG4.out hb5) (Tx.newb _ _); have hF5 : Qr.Fr g w (w5.alloc (.cells #[.int .u8 N, .string ⟨nt.toArray⟩, .bool ng] 77)) := (hF4.trans (.of_below hb5)).alloc _; have e50 : (w5.alloc (.cells #[.int .u8 N, .string ⟨nt.toArray⟩, .bool ng] 77)).cell? ⟨w1.heap.size, 0, none⟩ = some (.int .u8 114) := (Tx.blk kT5).1 0; obtain ⟨kc5, kf5, kl5⟩ := Tx.blk kR5; have z0 : (w5.alloc (.cells #[.int .u8 N, .string ⟨nt.toArray⟩, .bool ng] 77)).cell? ⟨w.heap.size, 0, none⟩ = some (.int .i64 0) := kc5 0; have z1 : (w5.alloc (.cells #[.int .u8 N, .string ⟨nt.toArray⟩, .bool ng] 77)).cell? ⟨w.heap.size, 1, none⟩ = some (.int .i64 0) := kc5 1; have z2 : (w5.alloc (.cells #[.int .u8 N, .string ⟨nt.toArray⟩, .bool ng] 77)).cell? ⟨w.heap.size, 2, none⟩ = some (.slice none 0 0) := kc5 2; have z3 : (w5.alloc (.cells #[.int .u8 N, .string ⟨nt.toArray⟩, .bool ng] 77)).cell? ⟨w.heap.size, 3, none⟩ = some (.int .i64 0) := kc5 3; have z4 : (w5.alloc (.cells #[.int .u8 N, .string ⟨nt.toArray⟩, .bool ng] 77)).cell? ⟨w.heap.size, 4, none⟩ = some (.int .i64 0) := kc5 4; have z5 : (w5.alloc (.cells #[.int .u8 N, .string ⟨nt.toArray⟩, .bool ng] 77)).cell? ⟨w.heap.size, 5, none⟩ = some (.slice none 0 0) := kc5 5; have eg5 : (w5.alloc (.cells #[.int .u8 N, .string ⟨nt.toArray⟩, .bool ng] 77)).cell? ⟨g, 1, none⟩ = some (.int .i64 ((A : Int) + 1)) := (Tx.blk kg5).1 1; have fg5 : ∀ i, (w5.alloc (.cells #[.int .u8 N, .string ⟨nt.toArray⟩, .bool ng] 77)).frozen? ⟨g, i, none⟩ = false := (Tx.blk kg5).2.1; have KG5 := Lib.hid kg5; have KR5 := Lib.hid kR5; clear kT5 kg5 kR5 kc5)
        | (go_at_call 68; refine (text_Words_c ⟨tt.toArray⟩ ((w2.alloc (.cells #[.int .u8 N, .string ⟨nt.toArray⟩, .bool ng] 77)).setCell ⟨g, 1, none⟩ (.int .i64 ((A : Int) + 1))) hPS3.gp.g hsz HV.out).mono ?_; rintro e w4 ⟨A', xs, rfl, hws, hSLA, hA', hb4⟩; obtain rfl : xs = xs0 := (by rw [← HXS.out]; exact Qr.wordsB_bys hws); clear hws; have s4 := hb4.size; have hPS4 := hPS3.below hb4; have KG4 := Lib.hid (Tx.blk_later KG3.out hb4); have KT4 := Lib.hid (Tx.blk_later KT3.out hb4); have KR4 := Lib.hid (Tx.blk_later KR3.out hb4); have hF4 := hF3.trans (.of_below hb4); clear eg fg e30 e31)
        | (go_at_call 76; refine (L1 _ (hP1.below (Tx.newb _ _))).mono ?_; rintro e w2 ⟨rfl, hb2⟩; have s1 : w.heap.size < w1.heap.size := (by have := hb1.size; simp at this; omega); have s2 : w1.heap.size < w2.heap.size := (by have := hb2.size; simp at this; omega); have kT2 : (w2.alloc (.cells #[.int .u8 N, .string ⟨nt.toArray⟩, .bool ng] 77)).heap[w1.heap.size]? = some (.cells #[.int .u8 114, .string ⟨tt.toArray⟩, .bool tg] 77 (0, 0)) := Tx.blk_later (Tx.blk_later (heap_alloc_new w1 (.cells #[.int .u8 114, .string ⟨tt.toArray⟩, .bool tg] 77)) hb2) (Tx.newb w2 _); have kg2 : (w2.alloc (.cells #[.int .u8 N, .string ⟨nt.toArray⟩, .bool ng] 77)).heap[g]? = some (.cells #[.slice ta l.length tc, .int .i64 (A : Int)] 44 (0, 0)) := Tx.blk_later (Tx.blk_later (Tx.blk_later (Tx.blk_later (Tx.blk_later KG.out (Tx.newb _ _)) hb1) (Tx.newb _ _)) hb2) (Tx.newb w2 _); have kR2 : (w2.alloc (.cells #[.int .u8 N, .string ⟨nt.toArray⟩, .bool ng] 77)).heap[w.heap.size]? = some (.cells Qr.zeroQ 25 (0, 0)) := Tx.blk_later (Tx.blk_later (Tx.blk_later (Tx.blk_later (heap_alloc_new w _) hb1) (Tx.newb _ _)) hb2) (Tx.newb w2 _); have hF2 : Qr.Fr g w (w2.alloc (.cells #[.int .u8 N, .string ⟨nt.toArray⟩, .bool ng] 77)) := (((((Qr.Fr.refl g w).alloc _).trans (.of_below hb1)).alloc _).trans (.of_below hb2)).alloc _; have e30 : (w2.alloc (.cells #[.int .u8 N, .string ⟨nt.toArray⟩, .bool ng] 77)).cell? ⟨w1.heap.size, 0, none⟩ = some (.int .u8 114) := (Tx.blk kT2).1 0; have e31 : ∀ v, ((w2.alloc (.cells #[.int .u8 N, .string ⟨nt.toArray⟩, .bool ng] 77)).setCell ⟨g, 1, none⟩ v).cell? ⟨w1.heap.size, 1, none⟩ = some (.string ⟨tt.toArray⟩) := (fun v => (Tx.blk (Tx.blk_far kT2 (show w1.heap.size ≠ g by omega) v)).1 1); have eg : (w2.alloc (.cells #[.int .u8 N, .string ⟨nt.toArray⟩, .bool ng] 77)).cell? ⟨g, 1, none⟩ = some (.int .i64 (A : Int)) := (Tx.blk kg2).1 1; have fg : ∀ i, (w2.alloc (.cells #[.int .u8 N, .string ⟨nt.toArray⟩, .bool ng] 77)).frozen? ⟨g, i, none⟩ = false := (Tx.blk kg2).2.1; have kg3 : ((w2.alloc (.cells #[.int .u8 N, .string ⟨nt.toArray⟩, .bool ng] 77)).setCell ⟨g, 1, none⟩ (.int .i64 ((A : Int) + 1))).heap[g]? = some (.cells #[.slice ta l.length tc, .int .i64 ((A : Int) + 1)] 44 (0, 0)) := Qr.blk_set1 kg2 _; have hF3 : Qr.Fr g w ((w2.alloc (.cells #[.int .u8 N, .string ⟨nt.toArray⟩, .bool ng] 77)).setCell ⟨g, 1, none⟩ (.int .i64 ((A : Int) + 1))) := hF2.set rfl _; have hPS3 : Qr.PS g l r.tail ((w2.alloc (.cells #[.int .u8 N, .string ⟨nt.toArray⟩, .bool ng] 77)).setCell ⟨g, 1, none⟩ (.int .i64 ((A : Int) + 1))) := Qr.PS.of HPP.out KG.out hF3 HTE.out.1 kg3 HA1.out; have kT3 := Tx.blk_far (a := ⟨g, 1, none⟩) kT2 (show w1.heap.size ≠ g by omega) (.int .i64 ((A : Int) + 1)); have kR3 := Tx.blk_far (a := ⟨g, 1, none⟩) kR2 (show w.heap.size ≠ g by omega) (.int .i64 ((A : Int) + 1)); have KG3 := Lib.hid kg3; have KT3 := Lib.hid kT3; have KR3 := Lib.hid kR3; clear kg2 kT2 kR2 kg3 kT3 kR3)
        | (go_at_call 76; refine (L0 _ hP0).mono ?_; rintro e w1 ⟨rfl, hb1⟩; have hP1 := hP0.below hb1))
      refine bodyPost_ret (v := .agg #[.int .i64 1, .int .i64 0, .slice (some ⟨A', 0, none⟩) xs.length xs.length, .int .i64 0, .int .i64 0, .slice none 0 0]) (by simp [results, Tryz.results96, go_sem, z0, z1, z2, z3, z4, z5]) rfl ⟨⟨1, 0, some ⟨A', 0, none⟩, xs.length, xs.length, 0, 0, none, 0, 0⟩, rfl, Qr.QC.of_kids (ks := []) (Qr.Kp.sl hSLA (by have := hA'; simp [World.setCell] at this; omega) (Qr.Kp.put6 (M := w.heap.size + 1) ((Qr.Kp.below hb5).trans (Qr.Kp.below (Tx.newb w5 _))) (by omega) _ _ _ _ _ _)) (fun _ ad l2 c2 e9 => by injection e9 with e9; injection e9 with e9; rw [← e9]; have := hA'; simp [World.setCell] at this; simp only; omega) (Qr.KA.nil _ _), Qr.PS.of HPP.out KG.out (Qr.Fr.put6 hF5 (Nat.le_refl _) _ _ _ _ _ _) HTE.out.1 (Qr.far6 KG5.out (show g ≠ w.heap.size by omega) _ _ _ _ _ _) HA1.out, (Qr.Fr.put6 hF5 (Nat.le_refl _) _ _ _ _ _ _)⟩
    · have hO : OP = 3 := by rw [← HOP.out, if_neg (fun h => h1 h.2)]
      subst hO; clear HOP
      have h1i : ((xs0.length : Int) == 1) = false := beq_eq_false_iff_ne.2 (by omega)
      clear h1
      go_enter Tryz.func96, Tryz.ntmps96
      go_wp2_with (first
        | (go_at_call 76; refine (L2 _ hPS4).mono ?_; rintro e w5 ⟨rfl, hb5⟩; have s5 := hb5.size; have kT5 : (w5.alloc (.cells #[.int .u8 N, .string ⟨nt.toArray⟩, .bool ng] 77)).heap[w1.heap.size]? = some (.cells #[.int .u8 114, .string ⟨tt.toArray⟩, .bool tg] 77 (0, 0)) := Tx.blk_later (Tx.blk_later KT4.out hb5) (Tx.newb _ _); have kR5 : (w5.alloc (.cells #[.int .u8 N, .string ⟨nt.toArray⟩, .bool ng] 77)).heap[w.heap.size]? = some (.cells Qr.zeroQ 25 (0, 0)) := Tx.blk_later (Tx.blk_later KR4.out hb5) (Tx.newb _ _); have kg5 : (w5.alloc (.cells #[.int .u8 N, .string ⟨nt.toArray⟩, .bool ng] 77)).heap[g]? = some (.cells #[.slice ta l.length tc, .int .i64 ((A : Int) + 1)] 44 (0, 0)) := Tx.blk_later (Tx.blk_later KG4.out hb5) (Tx.newb _ _); have hF5 : Qr.Fr g w (w5.alloc (.cells #[.int .u8 N, .string ⟨nt.toArray⟩, .bool ng] 77)) := (hF4.trans (.of_below hb5)).alloc _; have e50 : (w5.alloc (.cells #[.int .u8 N, .string ⟨nt.toArray⟩, .bool ng] 77)).cell? ⟨w1.heap.size, 0, none⟩ = some (.int .u8 114) := (Tx.blk kT5).1 0; obtain ⟨kc5, kf5, kl5⟩ := Tx.blk kR5; have z0 : (w5.alloc (.cells #[.int .u8 N, .string ⟨nt.toArray⟩, .bool ng] 77)).cell? ⟨w.heap.size, 0, none⟩ = some (.int .i64 0) := kc5 0; have z1 : (w5.alloc (.cells #[.int .u8 N, .string ⟨nt.toArray⟩, .bool ng] 77)).cell? ⟨w.heap.size, 1, none⟩ = some (.int .i64 0) := kc5 1; have z2 : (w5.alloc (.cells #[.int .u8 N, .string ⟨nt.toArray⟩, .bool ng] 77)).cell? ⟨w.heap.size, 2, none⟩ = some (.slice none 0 0) := kc5 2; have z3 : (w5.alloc (.cells #[.int .u8 N, .string ⟨nt.toArray⟩, .bool ng] 77)).cell? ⟨w.heap.size, 3, none⟩ = some (.int .i64 0) := kc5 3; have z4 : (w5.alloc (.cells #[.int .u8 N, .string ⟨nt.toArray⟩, .bool ng] 77)).cell? ⟨w.heap.size, 4, none⟩ = some (.int .i64 0) := kc5 4; have z5 : (w5.alloc (.cells #[.int .u8 N, .string ⟨nt.toArray⟩, .bool ng] 77)).cell? ⟨w.heap.size, 5, none⟩ = some (.slice none 0 0) := kc5 5; have eg5 : (w5.alloc (.cells #[.int .u8 N, .string ⟨nt.toArray⟩, .bool ng] 77)).cell? ⟨g, 1, none⟩ = some (.int .i64 ((A : Int) + 1)) := (Tx.blk kg5).1 1; have fg5 : ∀ i, (w5.alloc (.cells #[.int .u8 N, .string ⟨nt.toArray⟩, .bool ng] 77)).frozen? ⟨g, i, none⟩ = false := (Tx.blk kg5).2.1; have KG5 := Lib.hid kg5; have KR5 := Lib.hid kR5; clear kT5 kg5 kR5 kc5)
        | (go_at_call 68; refine (text_Words_c ⟨tt.toArray⟩ ((w2.alloc (.cells #[.int .u8 N, .string ⟨nt.toArray⟩, .bool ng] 77)).setCell ⟨g, 1, none⟩ (.int .i64 ((A : Int) + 1))) hPS3.gp.g hsz HV.out).mono ?_; rintro e w4 ⟨A', xs, rfl, hws, hSLA, hA', hb4⟩; obtain rfl : xs = xs0 := (by rw [← HXS.out]; exact Qr.wordsB_bys hws); clear hws; have s4 := hb4.size; have hPS4 := hPS3.below hb4; have KG4 := Lib.hid (Tx.blk_later KG3.out hb4); have KT4 := Lib.hid (Tx.blk_later KT3.out hb4); have KR4 := Lib.hid (Tx.blk_later KR3.out hb4); have hF4 := hF3.trans (.of_below hb4); clear eg fg e30 e31)
        | (go_at_call 76; refine (L1 _ (hP1.below (Tx.newb _ _))).mono ?_; rintro e w2 ⟨rfl, hb2⟩; have s1 : w.heap.size < w1.heap.size := (by have := hb1.size; simp at this; omega); have s2 : w1.heap.size < w2.heap.size := (by have := hb2.size; simp at this; omega); have kT2 : (w2.alloc (.cells #[.int .u8 N, .string ⟨nt.toArray⟩, .bool ng] 77)).heap[w1.heap.size]? = some (.cells #[.int .u8 114, .string ⟨tt.toArray⟩, .bool tg] 77 (0, 0)) := Tx.blk_later (Tx.blk_later (heap_alloc_new w1 (.cells #[.int .u8 114, .string ⟨tt.toArray⟩, .bool tg] 77)) hb2) (Tx.newb w2 _); have kg2 : (w2.alloc (.cells #[.int .u8 N, .string ⟨nt.toArray⟩, .bool ng] 77)).heap[g]? = some (.cells #[.slice ta l.length tc, .int .i64 (A : Int)] 44 (0, 0)) := Tx.blk_later (Tx.blk_later (Tx.blk_later (Tx.blk_later (Tx.blk_later KG.out (Tx.newb _ _)) hb1) (Tx.newb _ _)) hb2) (Tx.newb w2 _); have kR2 : (w2.alloc (.cells #[.int .u8 N, .string ⟨nt.toArray⟩, .bool ng] 77)).heap[w.heap.size]? = some (.cells Qr.zeroQ 25 (0, 0)) := Tx.blk_later (Tx.blk_later (Tx.blk_later (Tx.blk_later (heap_alloc_new w _) hb1) (Tx.newb _ _)) hb2) (Tx.newb w2 _); have hF2 : Qr.Fr g w (w2.alloc (.cells #[.int .u8 N, .string ⟨nt.toArray⟩, .bool ng] 77)) := (((((Qr.Fr.refl g w).alloc _).trans (.of_below hb1)).alloc _).trans (.of_below hb2)).alloc _; have e30 : (w2.alloc (.cells #[.int .u8 N, .string ⟨nt.toArray⟩, .bool ng] 77)).cell? ⟨w1.heap.size, 0, none⟩ = some (.int .u8 114) := (Tx.blk kT2).1 0; have e31 : ∀ v, ((w2.alloc (.cells #[.int .u8 N, .string ⟨nt.toArray⟩, .bool ng] 77)).setCell ⟨g, 1, none⟩ v).cell? ⟨w1.heap.size, 1, none⟩ = some (.string ⟨tt.toArray⟩) := (fun v => (Tx.blk (Tx.blk_far kT2 (show w1.heap.size ≠ g by omega) v)).1 1); have eg : (w2.alloc (.cells #[.int .u8 N, .string ⟨nt.toArray⟩, .bool ng] 77)).cell? ⟨g, 1, none⟩ = some (.int .i64 (A : Int)) := (Tx.blk kg2).1 1; have fg : ∀ i, (w2.alloc (.cells #[.int .u8 N, .string ⟨nt.toArray⟩, .bool ng] 77)).frozen? ⟨g, i, none⟩ = false := (Tx.blk kg2).2.1; have kg3 : ((w2.alloc (.cells #[.int .u8 N, .string ⟨nt.toArray⟩, .bool ng] 77)).setCell ⟨g, 1, none⟩ (.int .i64 ((A : Int) + 1))).heap[g]? = some (.cells #[.slice ta l.length tc, .int .i64 ((A : Int) + 1)] 44 (0, 0)) := Qr.blk_set1 kg2 _; have hF3 : Qr.Fr g w ((w2.alloc (.cells #[.int .u8 N, .string ⟨nt.toArray⟩, .bool ng] 77)).setCell ⟨g, 1, none⟩ (.int .i64 ((A : Int) + 1))) := hF2.set rfl _; have hPS3 : Qr.PS g l r.tail ((w2.alloc (.cells #[.int .u8 N, .string ⟨nt.toArray⟩, .bool ng] 77)).setCell ⟨g, 1, none⟩ (.int .i64 ((A : Int) + 1))) := Qr.PS.of HPP.out KG.out hF3 HTE.out.1 kg3 HA1.out; have kT3 := Tx.blk_far (a := ⟨g, 1, none⟩) kT2 (show w1.heap.size ≠ g by omega) (.int .i64 ((A : Int) + 1)); have kR3 := Tx.blk_far (a := ⟨g, 1, none⟩) kR2 (show w.heap.size ≠ g by omega) (.int .i64 ((A : Int) + 1)); have KG3 := Lib.hid kg3; have KT3 := Lib.hid kT3; have KR3 := Lib.hid kR3; clear kg2 kT2 kR2 kg3 kT3 kR3)
        | (go_at_call 76; refine (L0 _ hP0).mono ?_; rintro e w1 ⟨rfl, hb1⟩; have hP1 := hP0.below hb1))
      refine bodyPost_ret (v := .agg #[.int .i64 3, .int .i64 0, .slice (some ⟨A', 0, none⟩) xs.length xs.length, .int .i64 0, .int .i64 0, .slice none 0 0]) (by simp [results, Tryz.results96, go_sem, z0, z1, z2, z3, z4, z5]) rfl ⟨⟨3, 0, some ⟨A', 0, none⟩, xs.length, xs.length, 0, 0, none, 0, 0⟩, rfl, Qr.QC.of_kids (ks := []) (Qr.Kp.sl hSLA (by have := hA'; simp [World.setCell] at this; omega) (Qr.Kp.put6 (M := w.heap.size + 1) ((Qr.Kp.below hb5).trans (Qr.Kp.below (Tx.newb w5 _))) (by omega) _ _ _ _ _ _)) (fun _ ad l2 c2 e9 => by injection e9 with e9; injection e9 with e9; rw [← e9]; have := hA'; simp [World.setCell] at this; simp only; omega) (Qr.KA.nil _ _), Qr.PS.of HPP.out KG.out (Qr.Fr.put6 hF5 (Nat.le_refl _) _ _ _ _ _ _) HTE.out.1 (Qr.far6 KG5.out (show g ≠ w.heap.size by omega) _ _ _ _ _ _) HA1.out, (Qr.Fr.put6 hF5 (Nat.le_refl _) _ _ _ _ _ _)⟩
  · by_cases h1 : xs0.length = 1
    · have hO : OP = 1 := by rw [← HOP.out, if_pos ⟨rfl, h1⟩]
      subst hO; clear HOP
      have h1i : ((xs0.length : Int) == 1) = true := by rw [h1]; rfl
      have H1 := Lib.hid h1; clear h1
      go_enter Tryz.func96, Tryz.ntmps96
      go_wp2_with (first
        | (go_at_call 76; refine (L2 _ hPS4).mono ?_; rintro e w5 ⟨rfl, hb5⟩; have s5 := hb5.size; have kT5 : (w5.alloc (.cells #[.int .u8 58, .string ⟨nt.toArray⟩, .bool false] 77)).heap[w1.heap.size]? = some (.cells #[.int .u8 114, .string ⟨tt.toArray⟩, .bool tg] 77 (0, 0)) := Tx.blk_later (Tx.blk_later KT4.out hb5) (Tx.newb _ _); have kR5 : (w5.alloc (.cells #[.int .u8 58, .string ⟨nt.toArray⟩, .bool false] 77)).heap[w.heap.size]? = some (.cells Qr.zeroQ 25 (0, 0)) := Tx.blk_later (Tx.blk_later KR4.out hb5) (Tx.newb _ _); have kg5 : (w5.alloc (.cells #[.int .u8 58, .string ⟨nt.toArray⟩, .bool false] 77)).heap[g]? = some (.cells #[.slice ta l.length tc, .int .i64 ((A : Int) + 1)] 44 (0, 0)) := Tx.blk_later (Tx.blk_later KG4.out hb5) (Tx.newb _ _); have hF5 : Qr.Fr g w (w5.alloc (.cells #[.int .u8 58, .string ⟨nt.toArray⟩, .bool false] 77)) := (hF4.trans (.of_below hb5)).alloc _; have e50 : (w5.alloc (.cells #[.int .u8 58, .string ⟨nt.toArray⟩, .bool false] 77)).cell? ⟨w1.heap.size, 0, none⟩ = some (.int .u8 114) := (Tx.blk kT5).1 0; obtain ⟨kc5, kf5, kl5⟩ := Tx.blk kR5; have z0 : (w5.alloc (.cells #[.int .u8 58, .string ⟨nt.toArray⟩, .bool false] 77)).cell? ⟨w.heap.size, 0, none⟩ = some (.int .i64 0) := kc5 0; have z1 : (w5.alloc (.cells #[.int .u8 58, .string ⟨nt.toArray⟩, .bool false] 77)).cell? ⟨w.heap.size, 1, none⟩ = some (.int .i64 0) := kc5 1; have z2 : (w5.alloc (.cells #[.int .u8 58, .string ⟨nt.toArray⟩, .bool false] 77)).cell? ⟨w.heap.size, 2, none⟩ = some (.slice none 0 0) := kc5 2; have z3 : (w5.alloc (.cells #[.int .u8 58, .string ⟨nt.toArray⟩, .bool false] 77)).cell? ⟨w.heap.size, 3, none⟩ = some (.int .i64 0) := kc5 3; have z4 : (w5.alloc (.cells #[.int .u8 58, .string ⟨nt.toArray⟩, .bool false] 77)).cell? ⟨w.heap.size, 4, none⟩ = some (.int .i64 0) := kc5 4; have z5 : (w5.alloc (.cells #[.int .u8 58, .string ⟨nt.toArray⟩, .bool false] 77)).cell? ⟨w.heap.size, 5, none⟩ = some (.slice none 0 0) := kc5 5; have eg5 : (w5.alloc (.cells #[.int .u8 58, .string ⟨nt.toArray⟩, .bool false] 77)).cell? ⟨g, 1, none⟩ = some (.int .i64 ((A : Int) + 1)) := (Tx.blk kg5).1 1; have fg5 : ∀ i, (w5.alloc (.cells #[.int .u8 58, .string ⟨nt.toArray⟩, .bool false] 77)).frozen? ⟨g, i, none⟩ = false := (Tx.blk kg5).2.1; have KG5 := Lib.hid kg5; have KR5 := Lib.hid kR5; clear kT5 kg5 kR5 kc5)
        | (go_at_call 68; refine (text_Words_c ⟨tt.toArray⟩ ((w2.alloc (.cells #[.int .u8 58, .string ⟨nt.toArray⟩, .bool false] 77)).setCell ⟨g, 1, none⟩ (.int .i64 ((A : Int) + 1))) hPS3.gp.g hsz HV.out).mono ?_; rintro e w4 ⟨A', xs, rfl, hws, hSLA, hA', hb4⟩; obtain rfl : xs = xs0 := (by rw [← HXS.out]; exact Qr.wordsB_bys hws); clear hws; have s4 := hb4.size; have hPS4 := hPS3.below hb4; have KG4 := Lib.hid (Tx.blk_later KG3.out hb4); have KT4 := Lib.hid (Tx.blk_later KT3.out hb4); have KR4 := Lib.hid (Tx.blk_later KR3.out hb4); have hF4 := hF3.trans (.of_below hb4); clear eg fg e30 e31)
        | (go_at_call 76; refine (L1 _ (hP1.below (Tx.newb _ _))).mono ?_; rintro e w2 ⟨rfl, hb2⟩; have s1 : w.heap.size < w1.heap.size := (by have := hb1.size; simp at this; omega); have s2 : w1.heap.size < w2.heap.size := (by have := hb2.size; simp at this; omega); have kT2 : (w2.alloc (.cells #[.int .u8 58, .string ⟨nt.toArray⟩, .bool false] 77)).heap[w1.heap.size]? = some (.cells #[.int .u8 114, .string ⟨tt.toArray⟩, .bool tg] 77 (0, 0)) := Tx.blk_later (Tx.blk_later (heap_alloc_new w1 (.cells #[.int .u8 114, .string ⟨tt.toArray⟩, .bool tg] 77)) hb2) (Tx.newb w2 _); have kg2 : (w2.alloc (.cells #[.int .u8 58, .string ⟨nt.toArray⟩, .bool false] 77)).heap[g]? = some (.cells #[.slice ta l.length tc, .int .i64 (A : Int)] 44 (0, 0)) := Tx.blk_later (Tx.blk_later (Tx.blk_later (Tx.blk_later (Tx.blk_later KG.out (Tx.newb _ _)) hb1) (Tx.newb _ _)) hb2) (Tx.newb w2 _); have kR2 : (w2.alloc (.cells #[.int .u8 58, .string ⟨nt.toArray⟩, .bool false] 77)).heap[w.heap.size]? = some (.cells Qr.zeroQ 25 (0, 0)) := Tx.blk_later (Tx.blk_later (Tx.blk_later (Tx.blk_later (heap_alloc_new w _) hb1) (Tx.newb _ _)) hb2) (Tx.newb w2 _); have hF2 : Qr.Fr g w (w2.alloc (.cells #[.int .u8 58, .string ⟨nt.toArray⟩, .bool false] 77)) := (((((Qr.Fr.refl g w).alloc _).trans (.of_below hb1)).alloc _).trans (.of_below hb2)).alloc _; have e30 : (w2.alloc (.cells #[.int .u8 58, .string ⟨nt.toArray⟩, .bool false] 77)).cell? ⟨w1.heap.size, 0, none⟩ = some (.int .u8 114) := (Tx.blk kT2).1 0; have e31 : ∀ v, ((w2.alloc (.cells #[.int .u8 58, .string ⟨nt.toArray⟩, .bool false] 77)).setCell ⟨g, 1, none⟩ v).cell? ⟨w1.heap.size, 1, none⟩ = some (.string ⟨tt.toArray⟩) := (fun v => (Tx.blk (Tx.blk_far kT2 (show w1.heap.size ≠ g by omega) v)).1 1); have eg : (w2.alloc (.cells #[.int .u8 58, .string ⟨nt.toArray⟩, .bool false] 77)).cell? ⟨g, 1, none⟩ = some (.int .i64 (A : Int)) := (Tx.blk kg2).1 1; have fg : ∀ i, (w2.alloc (.cells #[.int .u8 58, .string ⟨nt.toArray⟩, .bool false] 77)).frozen? ⟨g, i, none⟩ = false := (Tx.blk kg2).2.1; have kg3 : ((w2.alloc (.cells #[.int .u8 58, .string ⟨nt.toArray⟩, .bool false] 77)).setCell ⟨g, 1, none⟩ (.int .i64 ((A : Int) + 1))).heap[g]? = some (.cells #[.slice ta l.length tc, .int .i64 ((A : Int) + 1)] 44 (0, 0)) := Qr.blk_set1 kg2 _; have hF3 : Qr.Fr g w ((w2.alloc (.cells #[.int .u8 58, .string ⟨nt.toArray⟩, .bool false] 77)).setCell ⟨g, 1, none⟩ (.int .i64 ((A : Int) + 1))) := hF2.set rfl _; have hPS3 : Qr.PS g l r.tail ((w2.alloc (.cells #[.int .u8 58, .string ⟨nt.toArray⟩, .bool false] 77)).setCell ⟨g, 1, none⟩ (.int .i64 ((A : Int) + 1))) := Qr.PS.of HPP.out KG.out hF3 HTE.out.1 kg3 HA1.out; have kT3 := Tx.blk_far (a := ⟨g, 1, none⟩) kT2 (show w1.heap.size ≠ g by omega) (.int .i64 ((A : Int) + 1)); have kR3 := Tx.blk_far (a := ⟨g, 1, none⟩) kR2 (show w.heap.size ≠ g by omega) (.int .i64 ((A : Int) + 1)); have KG3 := Lib.hid kg3; have KT3 := Lib.hid kT3; have KR3 := Lib.hid kR3; clear kg2 kT2 kR2 kg3 kT3 kR3)
        | (go_at_call 76; refine (L0 _ hP0).mono ?_; rintro e w1 ⟨rfl, hb1⟩; have hP1 := hP0.below hb1))
      refine bodyPost_ret (v := .agg #[.int .i64 1, .int .i64 0, .slice (some ⟨A', 0, none⟩) xs.length xs.length, .int .i64 0, .int .i64 0, .slice none 0 0]) (by simp [results, Tryz.results96, go_sem, z0, z1, z2, z3, z4, z5]) rfl ⟨⟨1, 0, some ⟨A', 0, none⟩, xs.length, xs.length, 0, 0, none, 0, 0⟩, rfl, Qr.QC.of_kids (ks := []) (Qr.Kp.sl hSLA (by have := hA'; simp [World.setCell] at this; omega) (Qr.Kp.put6 (M := w.heap.size + 1) ((Qr.Kp.below hb5).trans (Qr.Kp.below (Tx.newb w5 _))) (by omega) _ _ _ _ _ _)) (fun _ ad l2 c2 e9 => by injection e9 with e9; injection e9 with e9; rw [← e9]; have := hA'; simp [World.setCell] at this; simp only; omega) (Qr.KA.nil _ _), Qr.PS.of HPP.out KG.out (Qr.Fr.put6 hF5 (Nat.le_refl _) _ _ _ _ _ _) HTE.out.1 (Qr.far6 KG5.out (show g ≠ w.heap.size by omega) _ _ _ _ _ _) HA1.out, (Qr.Fr.put6 hF5 (Nat.le_refl _) _ _ _ _ _ _)⟩
    · have hO : OP = 3 := by rw [← HOP.out, if_neg (fun h => h1 h.2)]
      subst hO; clear HOP
      have h1i : ((xs0.length : Int) == 1) = false := beq_eq_false_iff_ne.2 (by omega)
      clear h1
      go_enter Tryz.func96, Tryz.ntmps96
      go_wp2_with (first
        | (go_at_call 76; refine (L2 _ hPS4).mono ?_; rintro e w5 ⟨rfl, hb5⟩; have s5 := hb5.size; have kT5 : (w5.alloc (.cells #[.int .u8 58, .string ⟨nt.toArray⟩, .bool false] 77)).heap[w1.heap.size]? = some (.cells #[.int .u8 114, .string ⟨tt.toArray⟩, .bool tg] 77 (0, 0)) := Tx.blk_later (Tx.blk_later KT4.out hb5) (Tx.newb _ _); have kR5 : (w5.alloc (.cells #[.int .u8 58, .string ⟨nt.toArray⟩, .bool false] 77)).heap[w.heap.size]? = some (.cells Qr.zeroQ 25 (0, 0)) := Tx.blk_later (Tx.blk_later KR4.out hb5) (Tx.newb _ _); have kg5 : (w5.alloc (.cells #[.int .u8 58, .string ⟨nt.toArray⟩, .bool false] 77)).heap[g]? = some (.cells #[.slice ta l.length tc, .int .i64 ((A : Int) + 1)] 44 (0, 0)) := Tx.blk_later (Tx.blk_later KG4.out hb5) (Tx.newb _ _); have hF5 : Qr.Fr g w (w5.alloc (.cells #[.int .u8 58, .string ⟨nt.toArray⟩, .bool false] 77)) := (hF4.trans (.of_below hb5)).alloc _; have e50 : (w5.alloc (.cells #[.int .u8 58, .string ⟨nt.toArray⟩, .bool false] 77)).cell? ⟨w1.heap.size, 0, none⟩ = some (.int .u8 114) := (Tx.blk kT5).1 0; obtain ⟨kc5, kf5, kl5⟩ := Tx.blk kR5; have z0 : (w5.alloc (.cells #[.int .u8 58, .string ⟨nt.toArray⟩, .bool false] 77)).cell? ⟨w.heap.size, 0, none⟩ = some (.int .i64 0) := kc5 0; have z1 : (w5.alloc (.cells #[.int .u8 58, .string ⟨nt.toArray⟩, .bool false] 77)).cell? ⟨w.heap.size, 1, none⟩ = some (.int .i64 0) := kc5 1; have z2 : (w5.alloc (.cells #[.int .u8 58, .string ⟨nt.toArray⟩, .bool false] 77)).cell? ⟨w.heap.size, 2, none⟩ = some (.slice none 0 0) := kc5 2; have z3 : (w5.alloc (.cells #[.int .u8 58, .string ⟨nt.toArray⟩, .bool false] 77)).cell? ⟨w.heap.size, 3, none⟩ = some (.int .i64 0) := kc5 3; have z4 : (w5.alloc (.cells #[.int .u8 58, .string ⟨nt.toArray⟩, .bool false] 77)).cell? ⟨w.heap.size, 4, none⟩ = some (.int .i64 0) := kc5 4; have z5 : (w5.alloc (.cells #[.int .u8 58, .string ⟨nt.toArray⟩, .bool false] 77)).cell? ⟨w.heap.size, 5, none⟩ = some (.slice none 0 0) := kc5 5; have eg5 : (w5.alloc (.cells #[.int .u8 58, .string ⟨nt.toArray⟩, .bool false] 77)).cell? ⟨g, 1, none⟩ = some (.int .i64 ((A : Int) + 1)) := (Tx.blk kg5).1 1; have fg5 : ∀ i, (w5.alloc (.cells #[.int .u8 58, .string ⟨nt.toArray⟩, .bool false] 77)).frozen? ⟨g, i, none⟩ = false := (Tx.blk kg5).2.1; have KG5 := Lib.hid kg5; have KR5 := Lib.hid kR5; clear kT5 kg5 kR5 kc5)
        | (go_at_call 68; refine (text_Words_c ⟨tt.toArray⟩ ((w2.alloc (.cells #[.int .u8 58, .string ⟨nt.toArray⟩, .bool false] 77)).setCell ⟨g, 1, none⟩ (.int .i64 ((A : Int) + 1))) hPS3.gp.g hsz HV.out).mono ?_; rintro e w4 ⟨A', xs, rfl, hws, hSLA, hA', hb4⟩; obtain rfl : xs = xs0 := (by rw [← HXS.out]; exact Qr.wordsB_bys hws); clear hws; have s4 := hb4.size; have hPS4 := hPS3.below hb4; have KG4 := Lib.hid (Tx.blk_later KG3.out hb4); have KT4 := Lib.hid (Tx.blk_later KT3.out hb4); have KR4 := Lib.hid (Tx.blk_later KR3.out hb4); have hF4 := hF3.trans (.of_below hb4); clear eg fg e30 e31)
        | (go_at_call 76; refine (L1 _ (hP1.below (Tx.newb _ _))).mono ?_; rintro e w2 ⟨rfl, hb2⟩; have s1 : w.heap.size < w1.heap.size := (by have := hb1.size; simp at this; omega); have s2 : w1.heap.size < w2.heap.size := (by have := hb2.size; simp at this; omega); have kT2 : (w2.alloc (.cells #[.int .u8 58, .string ⟨nt.toArray⟩, .bool false] 77)).heap[w1.heap.size]? = some (.cells #[.int .u8 114, .string ⟨tt.toArray⟩, .bool tg] 77 (0, 0)) := Tx.blk_later (Tx.blk_later (heap_alloc_new w1 (.cells #[.int .u8 114, .string ⟨tt.toArray⟩, .bool tg] 77)) hb2) (Tx.newb w2 _); have kg2 : (w2.alloc (.cells #[.int .u8 58, .string ⟨nt.toArray⟩, .bool false] 77)).heap[g]? = some (.cells #[.slice ta l.length tc, .int .i64 (A : Int)] 44 (0, 0)) := Tx.blk_later (Tx.blk_later (Tx.blk_later (Tx.blk_later (Tx.blk_later KG.out (Tx.newb _ _)) hb1) (Tx.newb _ _)) hb2) (Tx.newb w2 _); have kR2 : (w2.alloc (.cells #[.int .u8 58, .string ⟨nt.toArray⟩, .bool false] 77)).heap[w.heap.size]? = some (.cells Qr.zeroQ 25 (0, 0)) := Tx.blk_later (Tx.blk_later (Tx.blk_later (Tx.blk_later (heap_alloc_new w _) hb1) (Tx.newb _ _)) hb2) (Tx.newb w2 _); have hF2 : Qr.Fr g w (w2.alloc (.cells #[.int .u8 58, .string ⟨nt.toArray⟩, .bool false] 77)) := (((((Qr.Fr.refl g w).alloc _).trans (.of_below hb1)).alloc _).trans (.of_below hb2)).alloc _; have e30 : (w2.alloc (.cells #[.int .u8 58, .string ⟨nt.toArray⟩, .bool false] 77)).cell? ⟨w1.heap.size, 0, none⟩ = some (.int .u8 114) := (Tx.blk kT2).1 0; have e31 : ∀ v, ((w2.alloc (.cells #[.int .u8 58, .string ⟨nt.toArray⟩, .bool false] 77)).setCell ⟨g, 1, none⟩ v).cell? ⟨w1.heap.size, 1, none⟩ = some (.string ⟨tt.toArray⟩) := (fun v => (Tx.blk (Tx.blk_far kT2 (show w1.heap.size ≠ g by omega) v)).1 1); have eg : (w2.alloc (.cells #[.int .u8 58, .string ⟨nt.toArray⟩, .bool false] 77)).cell? ⟨g, 1, none⟩ = some (.int .i64 (A : Int)) := (Tx.blk kg2).1 1; have fg : ∀ i, (w2.alloc (.cells #[.int .u8 58, .string ⟨nt.toArray⟩, .bool false] 77)).frozen? ⟨g, i, none⟩ = false := (Tx.blk kg2).2.1; have kg3 : ((w2.alloc (.cells #[.int .u8 58, .string ⟨nt.toArray⟩, .bool false] 77)).setCell ⟨g, 1, none⟩ (.int .i64 ((A : Int) + 1))).heap[g]? = some (.cells #[.slice ta l.length tc, .int .i64 ((A : Int) + 1)] 44 (0, 0)) := Qr.blk_set1 kg2 _; have hF3 : Qr.Fr g w ((w2.alloc (.cells #[.int .u8 58, .string ⟨nt.toArray⟩, .bool false] 77)).setCell ⟨g, 1, none⟩ (.int .i64 ((A : Int) + 1))) := hF2.set rfl _; have hPS3 : Qr.PS g l r.tail ((w2.alloc (.cells #[.int .u8 58, .string ⟨nt.toArray⟩, .bool false] 77)).setCell ⟨g, 1, none⟩ (.int .i64 ((A : Int) + 1))) := Qr.PS.of HPP.out KG.out hF3 HTE.out.1 kg3 HA1.out; have kT3 := Tx.blk_far (a := ⟨g, 1, none⟩) kT2 (show w1.heap.size ≠ g by omega) (.int .i64 ((A : Int) + 1)); have kR3 := Tx.blk_far (a := ⟨g, 1, none⟩) kR2 (show w.heap.size ≠ g by omega) (.int .i64 ((A : Int) + 1)); have KG3 := Lib.hid kg3; have KT3 := Lib.hid kT3; have KR3 := Lib.hid kR3; clear kg2 kT2 kR2 kg3 kT3 kR3)
        | (go_at_call 76; refine (L0 _ hP0).mono ?_; rintro e w1 ⟨rfl, hb1⟩; have hP1 := hP0.below hb1))
      refine bodyPost_ret (v := .agg #[.int .i64 3, .int .i64 0, .slice (some ⟨A', 0, none⟩) xs.length xs.length, .int .i64 0, .int .i64 0, .slice none 0 0]) (by simp [results, Tryz.results96, go_sem, z0, z1, z2, z3, z4, z5]) rfl ⟨⟨3, 0, some ⟨A', 0, none⟩, xs.length, xs.length, 0, 0, none, 0, 0⟩, rfl, Qr.QC.of_kids (ks := []) (Qr.Kp.sl hSLA (by have := hA'; simp [World.setCell] at this; omega) (Qr.Kp.put6 (M := w.heap.size + 1) ((Qr.Kp.below hb5).trans (Qr.Kp.below (Tx.newb w5 _))) (by omega) _ _ _ _ _ _)) (fun _ ad l2 c2 e9 => by injection e9 with e9; injection e9 with e9; rw [← e9]; have := hA'; simp [World.setCell] at this; simp only; omega) (Qr.KA.nil _ _), Qr.PS.of HPP.out KG.out (Qr.Fr.put6 hF5 (Nat.le_refl _) _ _ _ _ _ _) HTE.out.1 (Qr.far6 KG5.out (show g ≠ w.heap.size by omega) _ _ _ _ _ _) HA1.out, (Qr.Fr.put6 hF5 (Nat.le_refl _) _ _ _ _ _ _)⟩
  · by_cases h1 : xs0.length = 1
    · have hO : OP = 1 := by rw [← HOP.out, if_pos ⟨rfl, h1⟩]
      subst hO; clear HOP
      have h1i : ((xs0.length : Int) == 1) = true := by rw [h1]; rfl
      have H1 := Lib.hid h1; clear h1
      go_enter Tryz.func96, Tryz.ntmps96
      go_wp2_with (first
        | (go_at_call 76; refine (L2 _ hPS4).mono ?_; rintro e w5 ⟨rfl, hb5⟩; have s5 := hb5.size; have kT5 : (w5.alloc (.cells #[.int .u8 42, .string ⟨nt.toArray⟩, .bool false] 77)).heap[w1.heap.size]? = some (.cells #[.int .u8 114, .string ⟨tt.toArray⟩, .bool tg] 77 (0, 0)) := Tx.blk_later (Tx.blk_later KT4.out hb5) (Tx.newb _ _); have kR5 : (w5.alloc (.cells #[.int .u8 42, .string ⟨nt.toArray⟩, .bool false] 77)).heap[w.heap.size]? = some (.cells Qr.zeroQ 25 (0, 0)) := Tx.blk_later (Tx.blk_later KR4.out hb5) (Tx.newb _ _); have kg5 : (w5.alloc (.cells #[.int .u8 42, .string ⟨nt.toArray⟩, .bool false] 77)).heap[g]? = some (.cells #[.slice ta l.length tc, .int .i64 ((A : Int) + 1)] 44 (0, 0)) := Tx.blk_later (Tx.blk_later KG4.out hb5) (Tx.newb _ _); have hF5 : Qr.Fr g w (w5.alloc (.cells #[.int .u8 42, .string ⟨nt.toArray⟩, .bool false] 77)) := (hF4.trans (.of_below hb5)).alloc _; have e50 : (w5.alloc (.cells #[.int .u8 42, .string ⟨nt.toArray⟩, .bool false] 77)).cell? ⟨w1.heap.size, 0, none⟩ = some (.int .u8 114) := (Tx.blk kT5).1 0; obtain ⟨kc5, kf5, kl5⟩ := Tx.blk kR5; have z0 : (w5.alloc (.cells #[.int .u8 42, .string ⟨nt.toArray⟩, .bool false] 77)).cell? ⟨w.heap.size, 0, none⟩ = some (.int .i64 0) := kc5 0; have z1 : (w5.alloc (.cells #[.int .u8 42, .string ⟨nt.toArray⟩, .bool false] 77)).cell? ⟨w.heap.size, 1, none⟩ = some (.int .i64 0) := kc5 1; have z2 : (w5.alloc (.cells #[.int .u8 42, .string ⟨nt.toArray⟩, .bool false] 77)).cell? ⟨w.heap.size, 2, none⟩ = some (.slice none 0 0) := kc5 2; have z3 : (w5.alloc (.cells #[.int .u8 42, .string ⟨nt.toArray⟩, .bool false] 77)).cell? ⟨w.heap.size, 3, none⟩ = some (.int .i64 0) := kc5 3; have z4 : (w5.alloc (.cells #[.int .u8 42, .string ⟨nt.toArray⟩, .bool false] 77)).cell? ⟨w.heap.size, 4, none⟩ = some (.int .i64 0) := kc5 4; have z5 : (w5.alloc (.cells #[.int .u8 42, .string ⟨nt.toArray⟩, .bool false] 77)).cell? ⟨w.heap.size, 5, none⟩ = some (.slice none 0 0) := kc5 5; have eg5 : (w5.alloc (.cells #[.int .u8 42, .string ⟨nt.toArray⟩, .bool false] 77)).cell? ⟨g, 1, none⟩ = some (.int .i64 ((A : Int) + 1)) := (Tx.blk kg5).1 1; have fg5 : ∀ i, (w5.alloc (.cells #[.int .u8 42, .string ⟨nt.toArray⟩, .bool false] 77)).frozen? ⟨g, i, none⟩ = false := (Tx.blk kg5).2.1; have KG5 := Lib.hid kg5; have KR5 := Lib.hid kR5; clear kT5 kg5 kR5 kc5)
        | (go_at_call 68; refine (text_Words_c ⟨tt.toArray⟩ ((w2.alloc (.cells #[.int .u8 42, .string ⟨nt.toArray⟩, .bool false] 77)).setCell ⟨g, 1, none⟩ (.int .i64 ((A : Int) + 1))) hPS3.gp.g hsz HV.out).mono ?_; rintro e w4 ⟨A', xs, rfl, hws, hSLA, hA', hb4⟩; obtain rfl : xs = xs0 := (by rw [← HXS.out]; exact Qr.wordsB_bys hws); clear hws; have s4 := hb4.size; have hPS4 := hPS3.below hb4; have KG4 := Lib.hid (Tx.blk_later KG3.out hb4); have KT4 := Lib.hid (Tx.blk_later KT3.out hb4); have KR4 := Lib.hid (Tx.blk_later KR3.out hb4); have hF4 := hF3.trans (.of_below hb4); clear eg fg e30 e31)
        | (go_at_call 76; refine (L1 _ (hP1.below (Tx.newb _ _))).mono ?_; rintro e w2 ⟨rfl, hb2⟩; have s1 : w.heap.size < w1.heap.size := (by have := hb1.size; simp at this; omega); have s2 : w1.heap.size < w2.heap.size := (by have := hb2.size; simp at this; omega); have kT2 : (w2.alloc (.cells #[.int .u8 42, .string ⟨nt.toArray⟩, .bool false] 77)).heap[w1.heap.size]? = some (.cells #[.int .u8 114, .string ⟨tt.toArray⟩, .bool tg] 77 (0, 0)) := Tx.blk_later (Tx.blk_later (heap_alloc_new w1 (.cells #[.int .u8 114, .string ⟨tt.toArray⟩, .bool tg] 77)) hb2) (Tx.newb w2 _); have kg2 : (w2.alloc (.cells #[.int .u8 42, .string ⟨nt.toArray⟩, .bool false] 77)).heap[g]? = some (.cells #[.slice ta l.length tc, .int .i64 (A : Int)] 44 (0, 0)) := Tx.blk_later (Tx.blk_later (Tx.blk_later (Tx.blk_later (Tx.blk_later KG.out (Tx.newb _ _)) hb1) (Tx.newb _ _)) hb2) (Tx.newb w2 _); have kR2 : (w2.alloc (.cells #[.int .u8 42, .string ⟨nt.toArray⟩, .bool false] 77)).heap[w.heap.size]? = some (.cells Qr.zeroQ 25 (0, 0)) := Tx.blk_later (Tx.blk_later (Tx.blk_later (Tx.blk_later (heap_alloc_new w _) hb1) (Tx.newb _ _)) hb2) (Tx.newb w2 _); have hF2 : Qr.Fr g w (w2.alloc (.cells #[.int .u8 42, .string ⟨nt.toArray⟩, .bool false] 77)) := (((((Qr.Fr.refl g w).alloc _).trans (.of_below hb1)).alloc _).trans (.of_below hb2)).alloc _; have e30 : (w2.alloc (.cells #[.int .u8 42, .string ⟨nt.toArray⟩, .bool false] 77)).cell? ⟨w1.heap.size, 0, none⟩ = some (.int .u8 114) := (Tx.blk kT2).1 0; have e31 : ∀ v, ((w2.alloc (.cells #[.int .u8 42, .string ⟨nt.toArray⟩, .bool false] 77)).setCell ⟨g, 1, none⟩ v).cell? ⟨w1.heap.size, 1, none⟩ = some (.string ⟨tt.toArray⟩) := (fun v => (Tx.blk (Tx.blk_far kT2 (show w1.heap.size ≠ g by omega) v)).1 1); have eg : (w2.alloc (.cells #[.int .u8 42, .string ⟨nt.toArray⟩, .bool false] 77)).cell? ⟨g, 1, none⟩ = some (.int .i64 (A : Int)) := (Tx.blk kg2).1 1; have fg : ∀ i, (w2.alloc (.cells #[.int .u8 42, .string ⟨nt.toArray⟩, .bool false] 77)).frozen? ⟨g, i, none⟩ = false := (Tx.blk kg2).2.1; have kg3 : ((w2.alloc (.cells #[.int .u8 42, .string ⟨nt.toArray⟩, .bool false] 77)).setCell ⟨g, 1, none⟩ (.int .i64 ((A : Int) + 1))).heap[g]? = some (.cells #[.slice ta l.length tc, .int .i64 ((A : Int) + 1)] 44 (0, 0)) := Qr.blk_set1 kg2 _; have hF3 : Qr.Fr g w ((w2.alloc (.cells #[.int .u8 42, .string ⟨nt.toArray⟩, .bool false] 77)).setCell ⟨g, 1, none⟩ (.int .i64 ((A : Int) + 1))) := hF2.set rfl _; have hPS3 : Qr.PS g l r.tail ((w2.alloc (.cells #[.int .u8 42, .string ⟨nt.toArray⟩, .bool false] 77)).setCell ⟨g, 1, none⟩ (.int .i64 ((A : Int) + 1))) := Qr.PS.of HPP.out KG.out hF3 HTE.out.1 kg3 HA1.out; have kT3 := Tx.blk_far (a := ⟨g, 1, none⟩) kT2 (show w1.heap.size ≠ g by omega) (.int .i64 ((A : Int) + 1)); have kR3 := Tx.blk_far (a := ⟨g, 1, none⟩) kR2 (show w.heap.size ≠ g by omega) (.int .i64 ((A : Int) + 1)); have KG3 := Lib.hid kg3; have KT3 := Lib.hid kT3; have KR3 := Lib.hid kR3; clear kg2 kT2 kR2 kg3 kT3 kR3)
        | (go_at_call 76; refine (L0 _ hP0).mono ?_; rintro e w1 ⟨rfl, hb1⟩; have hP1 := hP0.below hb1))
      refine bodyPost_ret (v := .agg #[.int .i64 1, .int .i64 0, .slice (some ⟨A', 0, none⟩) xs.length xs.length, .int .i64 0, .int .i64 0, .slice none 0 0]) (by simp [results, Tryz.results96, go_sem, z0, z1, z2, z3, z4, z5]) rfl ⟨⟨1, 0, some ⟨A', 0, none⟩, xs.length, xs.length, 0, 0, none, 0, 0⟩, rfl, Qr.QC.of_kids (ks := []) (Qr.Kp.sl hSLA (by have := hA'; simp [World.setCell] at this; omega) (Qr.Kp.put6 (M := w.heap.size + 1) ((Qr.Kp.below hb5).trans (Qr.Kp.below (Tx.newb w5 _))) (by omega) _ _ _ _ _ _)) (fun _ ad l2 c2 e9 => by injection e9 with e9; injection e9 with e9; rw [← e9]; have := hA'; simp [World.setCell] at this; simp only; omega) (Qr.KA.nil _ _), Qr.PS.of HPP.out KG.out (Qr.Fr.put6 hF5 (Nat.le_refl _) _ _ _ _ _ _) HTE.out.1 (Qr.far6 KG5.out (show g ≠ w.heap.size by omega) _ _ _ _ _ _) HA1.out, (Qr.Fr.put6 hF5 (Nat.le_refl _) _ _ _ _ _ _)⟩
    · have hO : OP = 3 := by rw [← HOP.out, if_neg (fun h => h1 h.2)]
      subst hO; clear HOP
      have h1i : ((xs0.length : Int) == 1) = false := beq_eq_false_iff_ne.2 (by omega)
      clear h1
      go_enter Tryz.func96, Tryz.ntmps96
      go_wp2_with (first
        | (go_at_call 76; refine (L2 _ hPS4).mono ?_; rintro e w5 ⟨rfl, hb5⟩; have s5 := hb5.size; have kT5 : (w5.alloc (.cells #[.int .u8 42, .string ⟨nt.toArray⟩, .bool false] 77)).heap[w1.heap.size]? = some (.cells #[.int .u8 114, .string ⟨tt.toArray⟩, .bool tg] 77 (0, 0)) := Tx.blk_later (Tx.blk_later KT4.out hb5) (Tx.newb _ _); have kR5 : (w5.alloc (.cells #[.int .u8 42, .string ⟨nt.toArray⟩, .bool false] 77)).heap[w.heap.size]? = some (.cells Qr.zeroQ 25 (0, 0)) := Tx.blk_later (Tx.blk_later KR4.out hb5) (Tx.newb _ _); have kg5 : (w5.alloc (.cells #[.int .u8 42, .string ⟨nt.toArray⟩, .bool false] 77)).heap[g]? = some (.cells #[.slice ta l.length tc, .int .i64 ((A : Int) + 1)] 44 (0, 0)) := Tx.blk_later (Tx.blk_later KG4.out hb5) (Tx.newb _ _); have hF5 : Qr.Fr g w (w5.alloc (.cells #[.int .u8 42, .string ⟨nt.toArray⟩, .bool false] 77)) := (hF4.trans (.of_below hb5)).alloc _; have e50 : (w5.alloc (.cells #[.int .u8 42, .string ⟨nt.toArray⟩, .bool false] 77)).cell? ⟨w1.heap.size, 0, none⟩ = some (.int .u8 114) := (Tx.blk kT5).1 0; obtain ⟨kc5, kf5, kl5⟩ := Tx.blk kR5; have z0 : (w5.alloc (.cells #[.int .u8 42, .string ⟨nt.toArray⟩, .bool false] 77)).cell? ⟨w.heap.size, 0, none⟩ = some (.int .i64 0) := kc5 0; have z1 : (w5.alloc (.cells #[.int .u8 42, .string ⟨nt.toArray⟩, .bool false] 77)).cell? ⟨w.heap.size, 1, none⟩ = some (.int .i64 0) := kc5 1; have z2 : (w5.alloc (.cells #[.int .u8 42, .string ⟨nt.toArray⟩, .bool false] 77)).cell? ⟨w.heap.size, 2, none⟩ = some (.slice none 0 0) := kc5 2; have z3 : (w5.alloc (.cells #[.int .u8 42, .string ⟨nt.toArray⟩, .bool false] 77)).cell? ⟨w.heap.size, 3, none⟩ = some (.int .i64 0) := kc5 3; have z4 : (w5.alloc (.cells #[.int .u8 42, .string ⟨nt.toArray⟩, .bool false] 77)).cell? ⟨w.heap.size, 4, none⟩ = some (.int .i64 0) := kc5 4; have z5 : (w5.alloc (.cells #[.int .u8 42, .string ⟨nt.toArray⟩, .bool false] 77)).cell? ⟨w.heap.size, 5, none⟩ = some (.slice none 0 0) := kc5 5; have eg5 : (w5.alloc (.cells #[.int .u8 42, .string ⟨nt.toArray⟩, .bool false] 77)).cell? ⟨g, 1, none⟩ = some (.int .i64 ((A : Int) + 1)) := (Tx.blk kg5).1 1; have fg5 : ∀ i, (w5.alloc (.cells #[.int .u8 42, .string ⟨nt.toArray⟩, .bool false] 77)).frozen? ⟨g, i, none⟩ = false := (Tx.blk kg5).2.1; have KG5 := Lib.hid kg5; have KR5 := Lib.hid kR5; clear kT5 kg5 kR5 kc5)
        | (go_at_call 68; refine (text_Words_c ⟨tt.toArray⟩ ((w2.alloc (.cells #[.int .u8 42, .string ⟨nt.toArray⟩, .bool false] 77)).setCell ⟨g, 1, none⟩ (.int .i64 ((A : Int) + 1))) hPS3.gp.g hsz HV.out).mono ?_; rintro e w4 ⟨A', xs, rfl, hws, hSLA, hA', hb4⟩; obtain rfl : xs = xs0 := (by rw [← HXS.out]; exact Qr.wordsB_bys hws); clear hws; have s4 := hb4.size; have hPS4 := hPS3.below hb4; have KG4 := Lib.hid (Tx.blk_later KG3.out hb4); have KT4 := Lib.hid (Tx.blk_later KT3.out hb4); have KR4 := Lib.hid (Tx.blk_later KR3.out hb4); have hF4 := hF3.trans (.of_below hb4); clear eg fg e30 e31)
        | (go_at_call 76; refine (L1 _ (hP1.below (Tx.newb _ _))).mono ?_; rintro e w2 ⟨rfl, hb2⟩; have s1 : w.heap.size < w1.heap.size := (by have := hb1.size; simp at this; omega); have s2 : w1.heap.size < w2.heap.size := (by have := hb2.size; simp at this; omega); have kT2 : (w2.alloc (.cells #[.int .u8 42, .string ⟨nt.toArray⟩, .bool false] 77)).heap[w1.heap.size]? = some (.cells #[.int .u8 114, .string ⟨tt.toArray⟩, .bool tg] 77 (0, 0)) := Tx.blk_later (Tx.blk_later (heap_alloc_new w1 (.cells #[.int .u8 114, .string ⟨tt.toArray⟩, .bool tg] 77)) hb2) (Tx.newb w2 _); have kg2 : (w2.alloc (.cells #[.int .u8 42, .string ⟨nt.toArray⟩, .bool false] 77)).heap[g]? = some (.cells #[.slice ta l.length tc, .int .i64 (A : Int)] 44 (0, 0)) := Tx.blk_later (Tx.blk_later (Tx.blk_later (Tx.blk_later (Tx.blk_later KG.out (Tx.newb _ _)) hb1) (Tx.newb _ _)) hb2) (Tx.newb w2 _); have kR2 : (w2.alloc (.cells #[.int .u8 42, .string ⟨nt.toArray⟩, .bool false] 77)).heap[w.heap.size]? = some (.cells Qr.zeroQ 25 (0, 0)) := Tx.blk_later (Tx.blk_later (Tx.blk_later (Tx.blk_later (heap_alloc_new w _) hb1) (Tx.newb _ _)) hb2) (Tx.newb w2 _); have hF2 : Qr.Fr g w (w2.alloc (.cells #[.int .u8 42, .string ⟨nt.toArray⟩, .bool false] 77)) := (((((Qr.Fr.refl g w).alloc _).trans (.of_below hb1)).alloc _).trans (.of_below hb2)).alloc _; have e30 : (w2.alloc (.cells #[.int .u8 42, .string ⟨nt.toArray⟩, .bool false] 77)).cell? ⟨w1.heap.size, 0, none⟩ = some (.int .u8 114) := (Tx.blk kT2).1 0; have e31 : ∀ v, ((w2.alloc (.cells #[.int .u8 42, .string ⟨nt.toArray⟩, .bool false] 77)).setCell ⟨g, 1, none⟩ v).cell? ⟨w1.heap.size, 1, none⟩ = some (.string ⟨tt.toArray⟩) := (fun v => (Tx.blk (Tx.blk_far kT2 (show w1.heap.size ≠ g by omega) v)).1 1); have eg : (w2.alloc (.cells #[.int .u8 42, .string ⟨nt.toArray⟩, .bool false] 77)).cell? ⟨g, 1, none⟩ = some (.int .i64 (A : Int)) := (Tx.blk kg2).1 1; have fg : ∀ i, (w2.alloc (.cells #[.int .u8 42, .string ⟨nt.toArray⟩, .bool false] 77)).frozen? ⟨g, i, none⟩ = false := (Tx.blk kg2).2.1; have kg3 : ((w2.alloc (.cells #[.int .u8 42, .string ⟨nt.toArray⟩, .bool false] 77)).setCell ⟨g, 1, none⟩ (.int .i64 ((A : Int) + 1))).heap[g]? = some (.cells #[.slice ta l.length tc, .int .i64 ((A : Int) + 1)] 44 (0, 0)) := Qr.blk_set1 kg2 _; have hF3 : Qr.Fr g w ((w2.alloc (.cells #[.int .u8 42, .string ⟨nt.toArray⟩, .bool false] 77)).setCell ⟨g, 1, none⟩ (.int .i64 ((A : Int) + 1))) := hF2.set rfl _; have hPS3 : Qr.PS g l r.tail ((w2.alloc (.cells #[.int .u8 42, .string ⟨nt.toArray⟩, .bool false] 77)).setCell ⟨g, 1, none⟩ (.int .i64 ((A : Int) + 1))) := Qr.PS.of HPP.out KG.out hF3 HTE.out.1 kg3 HA1.out; have kT3 := Tx.blk_far (a := ⟨g, 1, none⟩) kT2 (show w1.heap.size ≠ g by omega) (.int .i64 ((A : Int) + 1)); have kR3 := Tx.blk_far (a := ⟨g, 1, none⟩) kR2 (show w.heap.size ≠ g by omega) (.int .i64 ((A : Int) + 1)); have KG3 := Lib.hid kg3; have KT3 := Lib.hid kT3; have KR3 := Lib.hid kR3; clear kg2 kT2 kR2 kg3 kT3 kR3)
        | (go_at_call 76; refine (L0 _ hP0).mono ?_; rintro e w1 ⟨rfl, hb1⟩; have hP1 := hP0.below hb1))
      refine bodyPost_ret (v := .agg #[.int .i64 3, .int .i64 0, .slice (some ⟨A', 0, none⟩) xs.length xs.length, .int .i64 0, .int .i64 0, .slice none 0 0]) (by simp [results, Tryz.results96, go_sem, z0, z1, z2, z3, z4, z5]) rfl ⟨⟨3, 0, some ⟨A', 0, none⟩, xs.length, xs.length, 0, 0, none, 0, 0⟩, rfl, Qr.QC.of_kids (ks := []) (Qr.Kp.sl hSLA (by have := hA'; simp [World.setCell] at this; omega) (Qr.Kp.put6 (M := w.heap.size + 1) ((Qr.Kp.below hb5).trans (Qr.Kp.below (Tx.newb w5 _))) (by omega) _ _ _ _ _ _)) (fun _ ad l2 c2 e9 => by injection e9 with e9; injection e9 with e9; rw [← e9]; have := hA'; simp [World.setCell] at this; simp only; omega) (Qr.KA.nil _ _), Qr.PS.of HPP.out KG.out (Qr.Fr.put6 hF5 (Nat.le_refl _) _ _ _ _ _ _) HTE.out.1 (Qr.far6 KG5.out (show g ≠ w.heap.size by omega) _ _ _ _ _ _) HA1.out, (Qr.Fr.put6 hF5 (Nat.le_refl _) _ _ _ _ _ _)⟩

set_option maxHeartbeats 3200000 in
theorem term_star (g : Nat) (l r : List Qr.Tok) (w : World) (hP : Qr.PS g l r w) (kk nk : UInt8) (tt nt : List UInt8) (tg ng : Bool) (K N : Int) (ht : Qr.lk r = ⟨kk, tt, tg⟩) (hK : (kk.toNat : Int) = K) (hn : Qr.lk1 r = ⟨nk, nt, ng⟩) (hN : (nk.toNat : Int) = N) (hk0 : kk ≠ 0) (hnk0 : nk ≠ 0) (hpass : K = 114 ∧ N = 42 ∧ ng = true) (hx : Qr.wordsB tt ≠ []) :
    Calls Tryz.prog 96 #[.pointer (some ⟨g, 0, none⟩)] w fun e w' => Qr.Res g l (if 1 < (Qr.wordsB tt).length then none else some (.mk 2 0 (Qr.wordsB tt) 0 0 [], r.tail.tail)) w e w' := by
  have hk2 : (Qr.lk r.tail).k ≠ 0 := by rw [show Qr.lk r.tail = ⟨nk, nt, ng⟩ from hn]; exact hnk0
  have hk1 : (Qr.lk r).k ≠ 0 := by rw [ht]; exact hk0
  have htok := hP.tok hk1
  rw [ht] at htok
  simp only at htok
  have hsz : (⟨tt.toArray⟩ : ByteArray).size ≤ 1000000000 := by rw [Tx.size_mk]; omega
  have hte := Qr.tail_eats hk1
  have hsl := hP.suf.length_le
  have hll := hP.len
  have L0 := fun w h => look0 (K := K) (w := w) (g := g) (l := l) ht hK h
  have L1 := fun w h => look1 (K := N) (w := w) (g := g) (l := l) hn hN h
  have L2 := fun w h => look0 (r := r.tail) (K := N) (w := w) (g := g) (l := l) hn hN h
  obtain ⟨ta, tc, kg, _, _⟩ := hP.blk
  obtain ⟨A, hA⟩ : ∃ A, l.length - r.length = A := ⟨_, rfl⟩
  rw [hA] at kg
  have hA1 : (A : Int) + 1 = ((l.length - r.tail.length : Nat) : Int) := by have := hte.2; rw [List.length_tail] at this ⊢; omega
  have hw1 := IntWalk.i64_in ((A : Int) + 1) ⟨by omega, by omega⟩
  have hw2 := IntWalk.i64_in ((A : Int) + 1 + 1) ⟨by omega, by omega⟩
  have hgl := hP.lt
  have hP0 := hP.below (Tx.newb w (.cells Qr.zeroQ 25))
  obtain ⟨xs0, hxs0⟩ : ∃ xs0, Qr.wordsB tt = xs0 := ⟨_, rfl⟩
  have HXS := Lib.hid hxs0; clear hxs0
  have KG := Lib.hid kg; clear kg
  have HA1 := Lib.hid hA1; clear hA1
  have HV := Lib.hid htok.1; clear htok
  have HTE := Lib.hid hte; clear hte
  have HPP := Lib.hid hP; clear hP
  clear ht hn hK hN hk0 hA hk1
  have hx0 : xs0 ≠ [] := by rw [← HXS.out]; exact hx
  rw [HXS.out]
  clear hx
  have hxn : ((xs0.length : Int) == 0) = false := beq_eq_false_iff_ne.2 (fun h => hx0 (List.eq_nil_of_length_eq_zero (by omega)))
  have hxn2 : ¬ ((xs0.length : Int) = 0) := fun h => hx0 (List.eq_nil_of_length_eq_zero (by omega))
  clear hx0
  have hA2 : (A : Int) + 1 + 1 = ((l.length - r.tail.tail.length : Nat) : Int) := by
    have h1 := HA1.out
    have h2 := (Qr.tail_eats hk2).2
    have h3 := HTE.out.1.length_le
    rw [List.length_tail] at h2
    rw [List.length_tail (l := r.tail)]
    omega
  have HA2 := Lib.hid hA2; clear hA2 hk2 hnk0
  obtain ⟨rfl, rfl, rfl⟩ := hpass
  by_cases h1 : 1 < xs0.length
  · rw [if_pos h1]
    go_enter Tryz.func96, Tryz.ntmps96
    go_wp2_with (first
      | (go_at_call 76; refine (L2 _ hPS4).mono ?_; rintro e w5 ⟨rfl, hb5⟩; have s5 := hb5.size; have kT5 : (w5.alloc (.cells #[.int .u8 42, .string ⟨nt.toArray⟩, .bool true] 77)).heap[w1.heap.size]? = some (.cells #[.int .u8 114, .string ⟨tt.toArray⟩, .bool tg] 77 (0, 0)) := Tx.blk_later (Tx.blk_later KT4.out hb5) (Tx.newb _ _); have kR5 : (w5.alloc (.cells #[.int .u8 42, .string ⟨nt.toArray⟩, .bool true] 77)).heap[w.heap.size]? = some (.cells Qr.zeroQ 25 (0, 0)) := Tx.blk_later (Tx.blk_later KR4.out hb5) (Tx.newb _ _); have kg5 : (w5.alloc (.cells #[.int .u8 42, .string ⟨nt.toArray⟩, .bool true] 77)).heap[g]? = some (.cells #[.slice ta l.length tc, .int .i64 ((A : Int) + 1)] 44 (0, 0)) := Tx.blk_later (Tx.blk_later KG4.out hb5) (Tx.newb _ _); have hF5 : Qr.Fr g w (w5.alloc (.cells #[.int .u8 42, .string ⟨nt.toArray⟩, .bool true] 77)) := (hF4.trans (.of_below hb5)).alloc _; have e50 : (w5.alloc (.cells #[.int .u8 42, .string ⟨nt.toArray⟩, .bool true] 77)).cell? ⟨w1.heap.size, 0, none⟩ = some (.int .u8 114) := (Tx.blk kT5).1 0; obtain ⟨kc5, kf5, kl5⟩ := Tx.blk kR5; have z0 : (w5.alloc (.cells #[.int .u8 42, .string ⟨nt.toArray⟩, .bool true] 77)).cell? ⟨w.heap.size, 0, none⟩ = some (.int .i64 0) := kc5 0; have z1 : (w5.alloc (.cells #[.int .u8 42, .string ⟨nt.toArray⟩, .bool true] 77)).cell? ⟨w.heap.size, 1, none⟩ = some (.int .i64 0) := kc5 1; have z2 : (w5.alloc (.cells #[.int .u8 42, .string ⟨nt.toArray⟩, .bool true] 77)).cell? ⟨w.heap.size, 2, none⟩ = some (.slice none 0 0) := kc5 2; have z3 : (w5.alloc (.cells #[.int .u8 42, .string ⟨nt.toArray⟩, .bool true] 77)).cell? ⟨w.heap.size, 3, none⟩ = some (.int .i64 0) := kc5 3; have z4 : (w5.alloc (.cells #[.int .u8 42, .string ⟨nt.toArray⟩, .bool true] 77)).cell? ⟨w.heap.size, 4, none⟩ = some (.int .i64 0) := kc5 4; have z5 : (w5.alloc (.cells #[.int .u8 42, .string ⟨nt.toArray⟩, .bool true] 77)).cell? ⟨w.heap.size, 5, none⟩ = some (.slice none 0 0) := kc5 5; have eg5 : (w5.alloc (.cells #[.int .u8 42, .string ⟨nt.toArray⟩, .bool true] 77)).cell? ⟨g, 1, none⟩ = some (.int .i64 ((A : Int) + 1)) := (Tx.blk kg5).1 1; have fg5 : ∀ i, (w5.alloc (.cells #[.int .u8 42, .string ⟨nt.toArray⟩, .bool true] 77)).frozen? ⟨g, i, none⟩ = false := (Tx.blk kg5).2.1; have KG5 := Lib.hid kg5; have KR5 := Lib.hid kR5; clear kT5 kg5 kR5 kc5)
      | (go_at_call 68; refine (text_Words_c ⟨tt.toArray⟩ ((w2.alloc (.cells #[.int .u8 42, .string ⟨nt.toArray⟩, .bool true] 77)).setCell ⟨g, 1, none⟩ (.int .i64 ((A : Int) + 1))) hPS3.gp.g hsz HV.out).mono ?_; rintro e w4 ⟨A', xs, rfl, hws, hSLA, hA', hb4⟩; obtain rfl : xs = xs0 := (by rw [← HXS.out]; exact Qr.wordsB_bys hws); clear hws; have s4 := hb4.size; have hPS4 := hPS3.below hb4; have KG4 := Lib.hid (Tx.blk_later KG3.out hb4); have KT4 := Lib.hid (Tx.blk_later KT3.out hb4); have KR4 := Lib.hid (Tx.blk_later KR3.out hb4); have hF4 := hF3.trans (.of_below hb4); clear eg fg e30 e31)
      | (go_at_call 76; refine (L1 _ (hP1.below (Tx.newb _ _))).mono ?_; rintro e w2 ⟨rfl, hb2⟩; have s1 : w.heap.size < w1.heap.size := (by have := hb1.size; simp at this; omega); have s2 : w1.heap.size < w2.heap.size := (by have := hb2.size; simp at this; omega); have kT2 : (w2.alloc (.cells #[.int .u8 42, .string ⟨nt.toArray⟩, .bool true] 77)).heap[w1.heap.size]? = some (.cells #[.int .u8 114, .string ⟨tt.toArray⟩, .bool tg] 77 (0, 0)) := Tx.blk_later (Tx.blk_later (heap_alloc_new w1 (.cells #[.int .u8 114, .string ⟨tt.toArray⟩, .bool tg] 77)) hb2) (Tx.newb w2 _); have kg2 : (w2.alloc (.cells #[.int .u8 42, .string ⟨nt.toArray⟩, .bool true] 77)).heap[g]? = some (.cells #[.slice ta l.length tc, .int .i64 (A : Int)] 44 (0, 0)) := Tx.blk_later (Tx.blk_later (Tx.blk_later (Tx.blk_later (Tx.blk_later KG.out (Tx.newb _ _)) hb1) (Tx.newb _ _)) hb2) (Tx.newb w2 _); have kR2 : (w2.alloc (.cells #[.int .u8 42, .string ⟨nt.toArray⟩, .bool true] 77)).heap[w.heap.size]? = some (.cells Qr.zeroQ 25 (0, 0)) := Tx.blk_later (Tx.blk_later (Tx.blk_later (Tx.blk_later (heap_alloc_new w _) hb1) (Tx.newb _ _)) hb2) (Tx.newb w2 _); have hF2 : Qr.Fr g w (w2.alloc (.cells #[.int .u8 42, .string ⟨nt.toArray⟩, .bool true] 77)) := (((((Qr.Fr.refl g w).alloc _).trans (.of_below hb1)).alloc _).trans (.of_below hb2)).alloc _; have e30 : (w2.alloc (.cells #[.int .u8 42, .string ⟨nt.toArray⟩, .bool true] 77)).cell? ⟨w1.heap.size, 0, none⟩ = some (.int .u8 114) := (Tx.blk kT2).1 0; have e31 : ∀ v, ((w2.alloc (.cells #[.int .u8 42, .string ⟨nt.toArray⟩, .bool true] 77)).setCell ⟨g, 1, none⟩ v).cell? ⟨w1.heap.size, 1, none⟩ = some (.string ⟨tt.toArray⟩) := (fun v => (Tx.blk (Tx.blk_far kT2 (show w1.heap.size ≠ g by omega) v)).1 1); have eg : (w2.alloc (.cells #[.int .u8 42, .string ⟨nt.toArray⟩, .bool true] 77)).cell? ⟨g, 1, none⟩ = some (.int .i64 (A : Int)) := (Tx.blk kg2).1 1; have fg : ∀ i, (w2.alloc (.cells #[.int .u8 42, .string ⟨nt.toArray⟩, .bool true] 77)).frozen? ⟨g, i, none⟩ = false := (Tx.blk kg2).2.1; have kg3 : ((w2.alloc (.cells #[.int .u8 42, .string ⟨nt.toArray⟩, .bool true] 77)).setCell ⟨g, 1, none⟩ (.int .i64 ((A : Int) + 1))).heap[g]? = some (.cells #[.slice ta l.length tc, .int .i64 ((A : Int) + 1)] 44 (0, 0)) := Qr.blk_set1 kg2 _; have hF3 : Qr.Fr g w ((w2.alloc (.cells #[.int .u8 42, .string ⟨nt.toArray⟩, .bool true] 77)).setCell ⟨g, 1, none⟩ (.int .i64 ((A : Int) + 1))) := hF2.set rfl _; have hPS3 : Qr.PS g l r.tail ((w2.alloc (.cells #[.int .u8 42, .string ⟨nt.toArray⟩, .bool true] 77)).setCell ⟨g, 1, none⟩ (.int .i64 ((A : Int) + 1))) := Qr.PS.of HPP.out KG.out hF3 HTE.out.1 kg3 HA1.out; have kT3 := Tx.blk_far (a := ⟨g, 1, none⟩) kT2 (show w1.heap.size ≠ g by omega) (.int .i64 ((A : Int) + 1)); have kR3 := Tx.blk_far (a := ⟨g, 1, none⟩) kR2 (show w.heap.size ≠ g by omega) (.int .i64 ((A : Int) + 1)); have KG3 := Lib.hid kg3; have KT3 := Lib.hid kT3; have KR3 := Lib.hid kR3; clear kg2 kT2 kR2 kg3 kT3 kR3)
      | (go_at_call 76; refine (L0 _ hP0).mono ?_; rintro e w1 ⟨rfl, hb1⟩; have hP1 := hP0.below hb1))
    exact ⟨rfl, rfl, hF5⟩
  · rw [if_neg h1]
    go_enter Tryz.func96, Tryz.ntmps96
    go_wp2_with (first
      | (go_at_call 76; refine (L2 _ hPS4).mono ?_; rintro e w5 ⟨rfl, hb5⟩; have s5 := hb5.size; have kT5 : (w5.alloc (.cells #[.int .u8 42, .string ⟨nt.toArray⟩, .bool true] 77)).heap[w1.heap.size]? = some (.cells #[.int .u8 114, .string ⟨tt.toArray⟩, .bool tg] 77 (0, 0)) := Tx.blk_later (Tx.blk_later KT4.out hb5) (Tx.newb _ _); have kR5 : (w5.alloc (.cells #[.int .u8 42, .string ⟨nt.toArray⟩, .bool true] 77)).heap[w.heap.size]? = some (.cells Qr.zeroQ 25 (0, 0)) := Tx.blk_later (Tx.blk_later KR4.out hb5) (Tx.newb _ _); have kg5 : (w5.alloc (.cells #[.int .u8 42, .string ⟨nt.toArray⟩, .bool true] 77)).heap[g]? = some (.cells #[.slice ta l.length tc, .int .i64 ((A : Int) + 1)] 44 (0, 0)) := Tx.blk_later (Tx.blk_later KG4.out hb5) (Tx.newb _ _); have hF5 : Qr.Fr g w (w5.alloc (.cells #[.int .u8 42, .string ⟨nt.toArray⟩, .bool true] 77)) := (hF4.trans (.of_below hb5)).alloc _; have e50 : (w5.alloc (.cells #[.int .u8 42, .string ⟨nt.toArray⟩, .bool true] 77)).cell? ⟨w1.heap.size, 0, none⟩ = some (.int .u8 114) := (Tx.blk kT5).1 0; obtain ⟨kc5, kf5, kl5⟩ := Tx.blk kR5; have z0 : (w5.alloc (.cells #[.int .u8 42, .string ⟨nt.toArray⟩, .bool true] 77)).cell? ⟨w.heap.size, 0, none⟩ = some (.int .i64 0) := kc5 0; have z1 : (w5.alloc (.cells #[.int .u8 42, .string ⟨nt.toArray⟩, .bool true] 77)).cell? ⟨w.heap.size, 1, none⟩ = some (.int .i64 0) := kc5 1; have z2 : (w5.alloc (.cells #[.int .u8 42, .string ⟨nt.toArray⟩, .bool true] 77)).cell? ⟨w.heap.size, 2, none⟩ = some (.slice none 0 0) := kc5 2; have z3 : (w5.alloc (.cells #[.int .u8 42, .string ⟨nt.toArray⟩, .bool true] 77)).cell? ⟨w.heap.size, 3, none⟩ = some (.int .i64 0) := kc5 3; have z4 : (w5.alloc (.cells #[.int .u8 42, .string ⟨nt.toArray⟩, .bool true] 77)).cell? ⟨w.heap.size, 4, none⟩ = some (.int .i64 0) := kc5 4; have z5 : (w5.alloc (.cells #[.int .u8 42, .string ⟨nt.toArray⟩, .bool true] 77)).cell? ⟨w.heap.size, 5, none⟩ = some (.slice none 0 0) := kc5 5; have eg5 : (w5.alloc (.cells #[.int .u8 42, .string ⟨nt.toArray⟩, .bool true] 77)).cell? ⟨g, 1, none⟩ = some (.int .i64 ((A : Int) + 1)) := (Tx.blk kg5).1 1; have fg5 : ∀ i, (w5.alloc (.cells #[.int .u8 42, .string ⟨nt.toArray⟩, .bool true] 77)).frozen? ⟨g, i, none⟩ = false := (Tx.blk kg5).2.1; have y0 : ∀ v, ((w5.alloc (.cells #[.int .u8 42, .string ⟨nt.toArray⟩, .bool true] 77)).setCell ⟨g, 1, none⟩ v).cell? ⟨w.heap.size, 0, none⟩ = some (.int .i64 0) := (fun v => (Tx.blk (Tx.blk_far (a := ⟨g, 1, none⟩) kR5 (show w.heap.size ≠ g by omega) v)).1 0); have y1 : ∀ v, ((w5.alloc (.cells #[.int .u8 42, .string ⟨nt.toArray⟩, .bool true] 77)).setCell ⟨g, 1, none⟩ v).cell? ⟨w.heap.size, 1, none⟩ = some (.int .i64 0) := (fun v => (Tx.blk (Tx.blk_far (a := ⟨g, 1, none⟩) kR5 (show w.heap.size ≠ g by omega) v)).1 1); have y2 : ∀ v, ((w5.alloc (.cells #[.int .u8 42, .string ⟨nt.toArray⟩, .bool true] 77)).setCell ⟨g, 1, none⟩ v).cell? ⟨w.heap.size, 2, none⟩ = some (.slice none 0 0) := (fun v => (Tx.blk (Tx.blk_far (a := ⟨g, 1, none⟩) kR5 (show w.heap.size ≠ g by omega) v)).1 2); have y3 : ∀ v, ((w5.alloc (.cells #[.int .u8 42, .string ⟨nt.toArray⟩, .bool true] 77)).setCell ⟨g, 1, none⟩ v).cell? ⟨w.heap.size, 3, none⟩ = some (.int .i64 0) := (fun v => (Tx.blk (Tx.blk_far (a := ⟨g, 1, none⟩) kR5 (show w.heap.size ≠ g by omega) v)).1 3); have y4 : ∀ v, ((w5.alloc (.cells #[.int .u8 42, .string ⟨nt.toArray⟩, .bool true] 77)).setCell ⟨g, 1, none⟩ v).cell? ⟨w.heap.size, 4, none⟩ = some (.int .i64 0) := (fun v => (Tx.blk (Tx.blk_far (a := ⟨g, 1, none⟩) kR5 (show w.heap.size ≠ g by omega) v)).1 4); have y5 : ∀ v, ((w5.alloc (.cells #[.int .u8 42, .string ⟨nt.toArray⟩, .bool true] 77)).setCell ⟨g, 1, none⟩ v).cell? ⟨w.heap.size, 5, none⟩ = some (.slice none 0 0) := (fun v => (Tx.blk (Tx.blk_far (a := ⟨g, 1, none⟩) kR5 (show w.heap.size ≠ g by omega) v)).1 5); have KG5 := Lib.hid kg5; have KR5 := Lib.hid kR5; clear kT5 kg5 kR5 kc5)
      | (go_at_call 68; refine (text_Words_c ⟨tt.toArray⟩ ((w2.alloc (.cells #[.int .u8 42, .string ⟨nt.toArray⟩, .bool true] 77)).setCell ⟨g, 1, none⟩ (.int .i64 ((A : Int) + 1))) hPS3.gp.g hsz HV.out).mono ?_; rintro e w4 ⟨A', xs, rfl, hws, hSLA, hA', hb4⟩; obtain rfl : xs = xs0 := (by rw [← HXS.out]; exact Qr.wordsB_bys hws); clear hws; have s4 := hb4.size; have hPS4 := hPS3.below hb4; have KG4 := Lib.hid (Tx.blk_later KG3.out hb4); have KT4 := Lib.hid (Tx.blk_later KT3.out hb4); have KR4 := Lib.hid (Tx.blk_later KR3.out hb4); have hF4 := hF3.trans (.of_below hb4); clear eg fg e30 e31)
      | (go_at_call 76; refine (L1 _ (hP1.below (Tx.newb _ _))).mono ?_; rintro e w2 ⟨rfl, hb2⟩; have s1 : w.heap.size < w1.heap.size := (by have := hb1.size; simp at this; omega); have s2 : w1.heap.size < w2.heap.size := (by have := hb2.size; simp at this; omega); have kT2 : (w2.alloc (.cells #[.int .u8 42, .string ⟨nt.toArray⟩, .bool true] 77)).heap[w1.heap.size]? = some (.cells #[.int .u8 114, .string ⟨tt.toArray⟩, .bool tg] 77 (0, 0)) := Tx.blk_later (Tx.blk_later (heap_alloc_new w1 (.cells #[.int .u8 114, .string ⟨tt.toArray⟩, .bool tg] 77)) hb2) (Tx.newb w2 _); have kg2 : (w2.alloc (.cells #[.int .u8 42, .string ⟨nt.toArray⟩, .bool true] 77)).heap[g]? = some (.cells #[.slice ta l.length tc, .int .i64 (A : Int)] 44 (0, 0)) := Tx.blk_later (Tx.blk_later (Tx.blk_later (Tx.blk_later (Tx.blk_later KG.out (Tx.newb _ _)) hb1) (Tx.newb _ _)) hb2) (Tx.newb w2 _); have kR2 : (w2.alloc (.cells #[.int .u8 42, .string ⟨nt.toArray⟩, .bool true] 77)).heap[w.heap.size]? = some (.cells Qr.zeroQ 25 (0, 0)) := Tx.blk_later (Tx.blk_later (Tx.blk_later (Tx.blk_later (heap_alloc_new w _) hb1) (Tx.newb _ _)) hb2) (Tx.newb w2 _); have hF2 : Qr.Fr g w (w2.alloc (.cells #[.int .u8 42, .string ⟨nt.toArray⟩, .bool true] 77)) := (((((Qr.Fr.refl g w).alloc _).trans (.of_below hb1)).alloc _).trans (.of_below hb2)).alloc _; have e30 : (w2.alloc (.cells #[.int .u8 42, .string ⟨nt.toArray⟩, .bool true] 77)).cell? ⟨w1.heap.size, 0, none⟩ = some (.int .u8 114) := (Tx.blk kT2).1 0; have e31 : ∀ v, ((w2.alloc (.cells #[.int .u8 42, .string ⟨nt.toArray⟩, .bool true] 77)).setCell ⟨g, 1, none⟩ v).cell? ⟨w1.heap.size, 1, none⟩ = some (.string ⟨tt.toArray⟩) := (fun v => (Tx.blk (Tx.blk_far kT2 (show w1.heap.size ≠ g by omega) v)).1 1); have eg : (w2.alloc (.cells #[.int .u8 42, .string ⟨nt.toArray⟩, .bool true] 77)).cell? ⟨g, 1, none⟩ = some (.int .i64 (A : Int)) := (Tx.blk kg2).1 1; have fg : ∀ i, (w2.alloc (.cells #[.int .u8 42, .string ⟨nt.toArray⟩, .bool true] 77)).frozen? ⟨g, i, none⟩ = false := (Tx.blk kg2).2.1; have kg3 : ((w2.alloc (.cells #[.int .u8 42, .string ⟨nt.toArray⟩, .bool true] 77)).setCell ⟨g, 1, none⟩ (.int .i64 ((A : Int) + 1))).heap[g]? = some (.cells #[.slice ta l.length tc, .int .i64 ((A : Int) + 1)] 44 (0, 0)) := Qr.blk_set1 kg2 _; have hF3 : Qr.Fr g w ((w2.alloc (.cells #[.int .u8 42, .string ⟨nt.toArray⟩, .bool true] 77)).setCell ⟨g, 1, none⟩ (.int .i64 ((A : Int) + 1))) := hF2.set rfl _; have hPS3 : Qr.PS g l r.tail ((w2.alloc (.cells #[.int .u8 42, .string ⟨nt.toArray⟩, .bool true] 77)).setCell ⟨g, 1, none⟩ (.int .i64 ((A : Int) + 1))) := Qr.PS.of HPP.out KG.out hF3 HTE.out.1 kg3 HA1.out; have kT3 := Tx.blk_far (a := ⟨g, 1, none⟩) kT2 (show w1.heap.size ≠ g by omega) (.int .i64 ((A : Int) + 1)); have kR3 := Tx.blk_far (a := ⟨g, 1, none⟩) kR2 (show w.heap.size ≠ g by omega) (.int .i64 ((A : Int) + 1)); have KG3 := Lib.hid kg3; have KT3 := Lib.hid kT3; have KR3 := Lib.hid kR3; clear kg2 kT2 kR2 kg3 kT3 kR3)
      | (go_at_call 76; refine (L0 _ hP0).mono ?_; rintro e w1 ⟨rfl, hb1⟩; have hP1 := hP0.below hb1))
    refine bodyPost_ret (v := .agg #[.int .i64 2, .int .i64 0, .slice (some ⟨A', 0, none⟩) xs.length xs.length, .int .i64 0, .int .i64 0, .slice none 0 0]) (by simp [results, Tryz.results96, go_sem, y0, y1, y2, y3, y4, y5]) rfl ⟨⟨2, 0, some ⟨A', 0, none⟩, xs.length, xs.length, 0, 0, none, 0, 0⟩, rfl, Qr.QC.of_kids (ks := []) (Qr.Kp.sl hSLA (by have := hA'; simp [World.setCell] at this; omega) (Qr.Kp.put6 (M := w.heap.size + 1) (((Qr.Kp.below hb5).trans (Qr.Kp.below (Tx.newb w5 _))).set (show g < w.heap.size + 1 by omega) _) (by omega) _ _ _ _ _ _)) (fun _ ad l2 c2 e9 => by injection e9 with e9; injection e9 with e9; rw [← e9]; have := hA'; simp [World.setCell] at this; simp only; omega) (Qr.KA.nil _ _), Qr.PS.of HPP.out KG.out (Qr.Fr.put6 (hF5.set rfl _) (Nat.le_refl _) _ _ _ _ _ _) ((List.tail_suffix _).trans HTE.out.1) (Qr.far6 (Qr.blk_set1 KG5.out _) (show g ≠ w.heap.size by omega) _ _ _ _ _ _) HA2.out, (Qr.Fr.put6 (hF5.set rfl _) (Nat.le_refl _) _ _ _ _ _ _)⟩
end Go.Proofs.YtkahplbjbidemaaGreatDoor

/- A year is read: what the program's call does; the first minus in a text. -/
namespace Go.Proofs.YtkahplbjbidemaaGreatDoor
open Go.RowKit
set_option maxRecDepth 100000

namespace Qr
/-- What reading a year gives. -/
def YR (x : Option Nat) (e : Ending) : Prop := match x with
  | some n => e = .returned (.int .i64 (n : Int))
  | none => e = .panicked [{ v := wrongP, recovered := false }]
theorem index_one (c : UInt8) : ∀ l : List UInt8, Lib.index l [c] = Lib.indexByte l c
  | [] => rfl
  | b :: t => by
    rw [Lib.index, Lib.indexByte, index_one c t]
    have e : List.isPrefixOf [c] (b :: t) = (b == c) := by simp [List.isPrefixOf, Bool.beq_comm]
    rw [e]
theorem cut_one (c : UInt8) (l : List UInt8) : Lib.cut l [c] = match Sp.cut c l with | some (x, y) => (x, y, true) | none => (l, [], false) := by
  unfold Lib.cut
  rw [index_one]
  rcases Sp.indexByte_cut c l with ⟨h1, h2⟩ | ⟨i, h1, h2⟩
  · rw [h1, h2, if_neg (by decide)]
  · rw [h1, h2, if_pos (by omega)]
    simp
end Qr

set_option maxHeartbeats 1600000 in
theorem year_c (s : ByteArray) (w : World) (hs : s.size ≤ 281474976710656) (hG : G w) :
    Calls Tryz.prog 108 #[.string s] w fun e w' => Qr.YR (Qr.yearN s.data.toList) e ∧ Below w.heap.size w w' := by
  have HL := Lib.hid (Lib.size_eq s)
  obtain ⟨ln, hln⟩ : ∃ ln, s.size = ln := ⟨_, rfl⟩
  go_enter Tryz.func108, Tryz.ntmps108
  go_wp2_with fail
  refine (Atoi_c s _ hs hG).mono ?_
  rintro e w1 ⟨v, err, rfl, hb1, herr⟩
  rcases herr with ⟨rfl, h1⟩ | ⟨t, p, rfl, h1⟩
  · obtain ⟨hv1, hv2⟩ := Tx.atoi_bound h1
    have HA := Lib.hid h1; clear h1
    by_cases hlen : (4 : Int) < s.size
    · have HN : Hid (Qr.yearN s.data.toList = none) := Lib.hid (by unfold Qr.yearN; rw [if_pos (by rw [← HL.out]; omega)])
      go_wp2
      refine ⟨rfl, ?_, hb1⟩
      rw [HN.out]
      rfl
    · have HY : Hid (Qr.yearN s.data.toList = Nm.num s.data.toList) := Lib.hid (by unfold Qr.yearN; rw [if_neg (by rw [← HL.out]; omega)])
      have HLE : Hid (s.data.toList.length ≤ 4) := Lib.hid (by rw [← HL.out]; omega)
      obtain ⟨b, hb⟩ : ∃ b, (Lib.itoa v == s.toList) = b := ⟨_, rfl⟩
      cases b with
      | false =>
        have hne : Lib.itoa v ≠ s.data.toList := by
          rw [Lib.toList_data] at hb
          simpa using hb
        have hn : Nm.num s.data.toList = none := by
          cases hn : Nm.num s.data.toList with
          | none => rfl
          | some n =>
            exfalso
            have h2 := HA.out
            rw [Nm.atoi_num hn] at h2
            injection h2 with h2
            exact hne (by rw [← h2]; exact Nm.itoa_num hn)
        have HN : Hid (Qr.yearN s.data.toList = none) := Lib.hid (by rw [HY.out, hn])
        clear hn hne
        go_wp2_with (go_at_call 59; refine (Itoa_c v _ hv1 hv2 (hG.below hb1)).mono ?_; rintro e w2 ⟨rfl, hb2⟩)
        refine ⟨rfl, ?_, hb1.trans (hb2.mono hb1.size)⟩
        rw [HN.out]
        rfl
      | true =>
        have heq : Lib.itoa v = s.data.toList := by
          rw [Lib.toList_data] at hb
          simpa using hb
        have HE := Lib.hid heq; clear heq
        by_cases hv0 : v < 0
        · have hn : Nm.num s.data.toList = none := by
            cases hn : Nm.num s.data.toList with
            | none => rfl
            | some n =>
              exfalso
              have h2 := HA.out
              rw [Nm.atoi_num hn] at h2
              injection h2 with h2
              omega
          have HN : Hid (Qr.yearN s.data.toList = none) := Lib.hid (by rw [HY.out, hn])
          clear hn
          go_wp2_with (go_at_call 59; refine (Itoa_c v _ hv1 hv2 (hG.below hb1)).mono ?_; rintro e w2 ⟨rfl, hb2⟩)
          refine ⟨rfl, ?_, hb1.trans (hb2.mono hb1.size)⟩
          rw [HN.out]
          rfl
        · have hn := Nm.num_of_atoi (by omega) (Nat.le_trans HLE.out (by omega)) HE.out
          have HN : Hid (Qr.yearN s.data.toList = some v.toNat) := Lib.hid (by rw [HY.out, hn])
          have hz : ((v.toNat : Nat) : Int) = v := Int.toNat_of_nonneg (by omega)
          have HZ := Lib.hid hz; clear hz hn
          go_wp2_with (go_at_call 59; refine (Itoa_c v _ hv1 hv2 (hG.below hb1)).mono ?_; rintro e w2 ⟨rfl, hb2⟩)
          go_ret
          rw [HN.out]
          exact ⟨Tx.ret1 HZ.out.symm, hb1.trans (hb2.mono hb1.size)⟩
  · have hnone : Nm.num s.data.toList = none := by
      cases hn : Nm.num s.data.toList with
      | none => rfl
      | some n => exact (h1 _ (Nm.atoi_num hn)).elim
    have HN : Hid (Qr.yearN s.data.toList = none) := Lib.hid (by unfold Qr.yearN; rw [hnone]; split <;> rfl)
    clear hnone h1
    go_wp2
    refine ⟨rfl, ?_, hb1⟩
    rw [HN.out]
    rfl
end Go.Proofs.YtkahplbjbidemaaGreatDoor

/- A range of years is read: what the program's call does. -/
namespace Go.Proofs.YtkahplbjbidemaaGreatDoor
open Go.RowKit
set_option maxRecDepth 100000
attribute [local go_sem] Qr.run_tok0 Qr.run_tok1 Qr.run_tok2

theorem cut_c (tt x y : List UInt8) (b : Bool) (w : World) (hG : G w) (hs : tt.length ≤ 1000) (h : Lib.cut tt [45] = (x, y, b)) :
    Calls Tryz.prog 107 #[.string ⟨tt.toArray⟩, .string ⟨#[45]⟩] w fun e w' => e = .returned (.tuple #[.string ⟨x.toArray⟩, .string ⟨y.toArray⟩, .bool b]) ∧ Below w.heap.size w w' := by
  obtain ⟨m, hm⟩ := hG.m
  refine (Tryz.strings_Cut ⟨tt.toArray⟩ ⟨#[45]⟩ m w (by rw [Tx.size_mk]; omega) hm).mono ?_
  rintro e w' ⟨rfl, q, rfl⟩
  refine ⟨?_, Tx.drawn (Below.refl _ _) _⟩
  rw [show (⟨tt.toArray⟩ : ByteArray).data.toList = tt from rfl, show (⟨#[45]⟩ : ByteArray).data.toList = [45] from rfl, h]
theorem year_some {x : List UInt8} {n : Nat} (h : Qr.yearN x = some n) (hs : x.length ≤ 1000) (w : World) (hG : G w) :
    Calls Tryz.prog 108 #[.string ⟨x.toArray⟩] w fun e w' => e = .returned (.int .i64 (n : Int)) ∧ Below w.heap.size w w' := by
  refine (year_c ⟨x.toArray⟩ w (by rw [Tx.size_mk]; omega) hG).mono ?_
  rintro e w' ⟨h1, h2⟩
  rw [show (⟨x.toArray⟩ : ByteArray).data.toList = x from rfl, h] at h1
  exact ⟨h1, h2⟩
theorem year_none {x : List UInt8} (h : Qr.yearN x = none) (hs : x.length ≤ 1000) (w : World) (hG : G w) :
    Calls Tryz.prog 108 #[.string ⟨x.toArray⟩] w fun e w' => e = .panicked [{ v := Qr.wrongP, recovered := false }] ∧ Below w.heap.size w w' := by
  refine (year_c ⟨x.toArray⟩ w (by rw [Tx.size_mk]; omega) hG).mono ?_
  rintro e w' ⟨h1, h2⟩
  rw [show (⟨x.toArray⟩ : ByteArray).data.toList = x from rfl, h] at h1
  exact ⟨h1, h2⟩

set_option maxHeartbeats 1600000 in
theorem years_glue (g : Nat) (l r : List Qr.Tok) (w : World) (hP : Qr.PS g l r w) (kk nk : UInt8) (tt nt : List UInt8) (tg ng : Bool) (K N : Int) (ht : Qr.lk r = ⟨kk, tt, tg⟩) (hK : (kk.toNat : Int) = K) (hn : Qr.lk1 r = ⟨nk, nt, ng⟩) (hN : (nk.toNat : Int) = N) (hk0 : kk ≠ 0) (h1 : N = 58) (h2 : ng = true) :
    Calls Tryz.prog 95 #[.pointer (some ⟨g, 0, none⟩)] w fun e w' => e = .panicked [{ v := Qr.wrongP, recovered := false }] ∧ Qr.Fr g w w' := by
  have hk1 : (Qr.lk r).k ≠ 0 := by rw [ht]; exact hk0
  have htok := hP.tok hk1
  rw [ht] at htok
  simp only at htok
  have hsz : tt.length ≤ 1000 := by omega
  have hte := Qr.tail_eats hk1
  have hsl := hP.suf.length_le
  have hll := hP.len
  have L0 := fun w h => look0 (K := K) (w := w) (g := g) (l := l) ht hK h
  have L1 := fun w h => look1 (K := N) (w := w) (g := g) (l := l) hn hN h
  obtain ⟨ta, tc, kg, _, _⟩ := hP.blk
  obtain ⟨A, hA⟩ : ∃ A, l.length - r.length = A := ⟨_, rfl⟩
  rw [hA] at kg
  have HAA := Lib.hid (show (A : Int) = ((l.length - r.length : Nat) : Int) by omega)
  have hA1 : (A : Int) + 1 = ((l.length - r.tail.length : Nat) : Int) := by have := hte.2; rw [List.length_tail] at this ⊢; omega
  have hw1 := IntWalk.i64_in ((A : Int) + 1) ⟨by omega, by omega⟩
  have hgl := hP.lt
  have hP0 := hP.below (Tx.newb w (.cells Qr.zeroQ 25))
  have KG := Lib.hid kg; clear kg
  have HA1 := Lib.hid hA1; clear hA1
  have HV := Lib.hid htok.1; clear htok
  have HTE := Lib.hid hte; clear hte
  have HPP := Lib.hid hP; clear hP
  clear ht hn hK hN hk0 hA hk1
  subst h1; subst h2
  go_enter Tryz.func95, Tryz.ntmps95
  go_wp2_with (first
    | (go_at_call 76; refine (L1 _ (hP1.below (Tx.newb _ _))).mono ?_; rintro e w2 ⟨rfl, hb2⟩; have s1 : w.heap.size < w1.heap.size := (by have := hb1.size; simp at this; omega); have s2 : w1.heap.size < w2.heap.size := (by have := hb2.size; simp at this; omega); have kT2 : (w2.alloc (.cells #[.int .u8 58, .string ⟨nt.toArray⟩, .bool true] 77)).heap[w1.heap.size]? = some (.cells #[.int .u8 K, .string ⟨tt.toArray⟩, .bool tg] 77 (0, 0)) := Tx.blk_later (Tx.blk_later (heap_alloc_new w1 (.cells #[.int .u8 K, .string ⟨tt.toArray⟩, .bool tg] 77)) hb2) (Tx.newb w2 _); have kg2 : (w2.alloc (.cells #[.int .u8 58, .string ⟨nt.toArray⟩, .bool true] 77)).heap[g]? = some (.cells #[.slice ta l.length tc, .int .i64 (A : Int)] 44 (0, 0)) := Tx.blk_later (Tx.blk_later (Tx.blk_later (Tx.blk_later (Tx.blk_later KG.out (Tx.newb _ _)) hb1) (Tx.newb _ _)) hb2) (Tx.newb w2 _); have kR2 : (w2.alloc (.cells #[.int .u8 58, .string ⟨nt.toArray⟩, .bool true] 77)).heap[w.heap.size]? = some (.cells Qr.zeroQ 25 (0, 0)) := Tx.blk_later (Tx.blk_later (Tx.blk_later (Tx.blk_later (heap_alloc_new w _) hb1) (Tx.newb _ _)) hb2) (Tx.newb w2 _); have hF2 : Qr.Fr g w (w2.alloc (.cells #[.int .u8 58, .string ⟨nt.toArray⟩, .bool true] 77)) := (((((Qr.Fr.refl g w).alloc _).trans (.of_below hb1)).alloc _).trans (.of_below hb2)).alloc _; have e30 : (w2.alloc (.cells #[.int .u8 58, .string ⟨nt.toArray⟩, .bool true] 77)).cell? ⟨w1.heap.size, 0, none⟩ = some (.int .u8 K) := (Tx.blk kT2).1 0; have e31 : (w2.alloc (.cells #[.int .u8 58, .string ⟨nt.toArray⟩, .bool true] 77)).cell? ⟨w1.heap.size, 1, none⟩ = some (.string ⟨tt.toArray⟩) := (Tx.blk kT2).1 1; have hPS2 := Qr.PS.of HPP.out KG.out hF2 (List.suffix_refl _) kg2 HAA.out; have KG2 := Lib.hid kg2; have KT2 := Lib.hid kT2; have KR2 := Lib.hid kR2; clear kg2 kT2 kR2)
    | (go_at_call 76; refine (L0 _ hP0).mono ?_; rintro e w1 ⟨rfl, hb1⟩; have hP1 := hP0.below hb1))
  exact ⟨rfl, rfl, hF2⟩

set_option maxHeartbeats 1600000 in
theorem years_bad (g : Nat) (l r : List Qr.Tok) (w : World) (hP : Qr.PS g l r w) (kk nk : UInt8) (tt nt : List UInt8) (tg ng : Bool) (K N : Int) (ht : Qr.lk r = ⟨kk, tt, tg⟩) (hK : (kk.toNat : Int) = K) (hn : Qr.lk1 r = ⟨nk, nt, ng⟩) (hN : (nk.toNat : Int) = N) (hk0 : kk ≠ 0) (hpass : (N == 58) = false ∨ (N = 58 ∧ ng = false)) (x y : List UInt8) (b : Bool) (hcut : Lib.cut tt [45] = (x, y, b)) (hb : (K == 114) = false ∨ (K = 114 ∧ b = false)) :
    Calls Tryz.prog 95 #[.pointer (some ⟨g, 0, none⟩)] w fun e w' => e = .panicked [{ v := Qr.wrongP, recovered := false }] ∧ Qr.Fr g w w' := by
  have hk1 : (Qr.lk r).k ≠ 0 := by rw [ht]; exact hk0
  have htok := hP.tok hk1
  rw [ht] at htok
  simp only at htok
  have hsz : tt.length ≤ 1000 := by omega
  have hte := Qr.tail_eats hk1
  have hsl := hP.suf.length_le
  have hll := hP.len
  have L0 := fun w h => look0 (K := K) (w := w) (g := g) (l := l) ht hK h
  have L1 := fun w h => look1 (K := N) (w := w) (g := g) (l := l) hn hN h
  obtain ⟨ta, tc, kg, _, _⟩ := hP.blk
  obtain ⟨A, hA⟩ : ∃ A, l.length - r.length = A := ⟨_, rfl⟩
  rw [hA] at kg
  have HAA := Lib.hid (show (A : Int) = ((l.length - r.length : Nat) : Int) by omega)
  have hA1 : (A : Int) + 1 = ((l.length - r.tail.length : Nat) : Int) := by have := hte.2; rw [List.length_tail] at this ⊢; omega
  have hw1 := IntWalk.i64_in ((A : Int) + 1) ⟨by omega, by omega⟩
  have hgl := hP.lt
  have hP0 := hP.below (Tx.newb w (.cells Qr.zeroQ 25))
  have KG := Lib.hid kg; clear kg
  have HA1 := Lib.hid hA1; clear hA1
  have HV := Lib.hid htok.1; clear htok
  have HTE := Lib.hid hte; clear hte
  have HPP := Lib.hid hP; clear hP
  clear ht hn hK hN hk0 hA hk1
  have CUT := fun w h => cut_c tt x y b w h hsz hcut
  clear hcut
  rcases hb with hk | ⟨rfl, rfl⟩
  · have hk2 : (K != 114) = true := by rw [bne, hk]; rfl
    have hk3 : ¬ K = 114 := beq_eq_false_iff_ne.1 hk
    rcases hpass with hp | ⟨rfl, rfl⟩
    · go_enter Tryz.func95, Tryz.ntmps95
      go_wp2_with (first
        | (go_at_call 107; refine (CUT _ hPS2.gp.g).mono ?_; rintro e w3 ⟨rfl, hb3⟩; have s3 := hb3.size; have kT3 := Tx.blk_later KT2.out hb3; have kg3 := Tx.blk_later KG2.out hb3; have kR3 := Tx.blk_later KR2.out hb3; have hF3 := hF2.trans (.of_below hb3); have e50 : w3.cell? ⟨w1.heap.size, 0, none⟩ = some (.int .u8 K) := (Tx.blk kT3).1 0; have eg : w3.cell? ⟨g, 1, none⟩ = some (.int .i64 (A : Int)) := (Tx.blk kg3).1 1; have fg : ∀ i, w3.frozen? ⟨g, i, none⟩ = false := (Tx.blk kg3).2.1; have kg4 : (w3.setCell ⟨g, 1, none⟩ (.int .i64 ((A : Int) + 1))).heap[g]? = some (.cells #[.slice ta l.length tc, .int .i64 ((A : Int) + 1)] 44 (0, 0)) := Qr.blk_set1 kg3 _; have hF4 : Qr.Fr g w (w3.setCell ⟨g, 1, none⟩ (.int .i64 ((A : Int) + 1))) := hF3.set rfl _; have hPS4 : Qr.PS g l r.tail (w3.setCell ⟨g, 1, none⟩ (.int .i64 ((A : Int) + 1))) := Qr.PS.of HPP.out KG.out hF4 HTE.out.1 kg4 HA1.out; have kR4 := Tx.blk_far (a := ⟨g, 1, none⟩) kR3 (show w.heap.size ≠ g by omega) (.int .i64 ((A : Int) + 1)); have KG4 := Lib.hid kg4; have KR4 := Lib.hid kR4; clear kT3 kg3 kR3 kg4 kR4 e30 e31)
        | (go_at_call 76; refine (L1 _ (hP1.below (Tx.newb _ _))).mono ?_; rintro e w2 ⟨rfl, hb2⟩; have s1 : w.heap.size < w1.heap.size := (by have := hb1.size; simp at this; omega); have s2 : w1.heap.size < w2.heap.size := (by have := hb2.size; simp at this; omega); have kT2 : (w2.alloc (.cells #[.int .u8 N, .string ⟨nt.toArray⟩, .bool ng] 77)).heap[w1.heap.size]? = some (.cells #[.int .u8 K, .string ⟨tt.toArray⟩, .bool tg] 77 (0, 0)) := Tx.blk_later (Tx.blk_later (heap_alloc_new w1 (.cells #[.int .u8 K, .string ⟨tt.toArray⟩, .bool tg] 77)) hb2) (Tx.newb w2 _); have kg2 : (w2.alloc (.cells #[.int .u8 N, .string ⟨nt.toArray⟩, .bool ng] 77)).heap[g]? = some (.cells #[.slice ta l.length tc, .int .i64 (A : Int)] 44 (0, 0)) := Tx.blk_later (Tx.blk_later (Tx.blk_later (Tx.blk_later (Tx.blk_later KG.out (Tx.newb _ _)) hb1) (Tx.newb _ _)) hb2) (Tx.newb w2 _); have kR2 : (w2.alloc (.cells #[.int .u8 N, .string ⟨nt.toArray⟩, .bool ng] 77)).heap[w.heap.size]? = some (.cells Qr.zeroQ 25 (0, 0)) := Tx.blk_later (Tx.blk_later (Tx.blk_later (Tx.blk_later (heap_alloc_new w _) hb1) (Tx.newb _ _)) hb2) (Tx.newb w2 _); have hF2 : Qr.Fr g w (w2.alloc (.cells #[.int .u8 N, .string ⟨nt.toArray⟩, .bool ng] 77)) := (((((Qr.Fr.refl g w).alloc _).trans (.of_below hb1)).alloc _).trans (.of_below hb2)).alloc _; have e30 : (w2.alloc (.cells #[.int .u8 N, .string ⟨nt.toArray⟩, .bool ng] 77)).cell? ⟨w1.heap.size, 0, none⟩ = some (.int .u8 K) := (Tx.blk kT2).1 0; have e31 : (w2.alloc (.cells #[.int .u8 N, .string ⟨nt.toArray⟩, .bool ng] 77)).cell? ⟨w1.heap.size, 1, none⟩ = some (.string ⟨tt.toArray⟩) := (Tx.blk kT2).1 1; have hPS2 := Qr.PS.of HPP.out KG.out hF2 (List.suffix_refl _) kg2 HAA.out; have KG2 := Lib.hid kg2; have KT2 := Lib.hid kT2; have KR2 := Lib.hid kR2; clear kg2 kT2 kR2)
        | (go_at_call 76; refine (L0 _ hP0).mono ?_; rintro e w1 ⟨rfl, hb1⟩; have hP1 := hP0.below hb1))
      all_goals exact ⟨rfl, rfl, hF3⟩
    · go_enter Tryz.func95, Tryz.ntmps95
      go_wp2_with (first
        | (go_at_call 107; refine (CUT _ hPS2.gp.g).mono ?_; rintro e w3 ⟨rfl, hb3⟩; have s3 := hb3.size; have kT3 := Tx.blk_later KT2.out hb3; have kg3 := Tx.blk_later KG2.out hb3; have kR3 := Tx.blk_later KR2.out hb3; have hF3 := hF2.trans (.of_below hb3); have e50 : w3.cell? ⟨w1.heap.size, 0, none⟩ = some (.int .u8 K) := (Tx.blk kT3).1 0; have eg : w3.cell? ⟨g, 1, none⟩ = some (.int .i64 (A : Int)) := (Tx.blk kg3).1 1; have fg : ∀ i, w3.frozen? ⟨g, i, none⟩ = false := (Tx.blk kg3).2.1; have kg4 : (w3.setCell ⟨g, 1, none⟩ (.int .i64 ((A : Int) + 1))).heap[g]? = some (.cells #[.slice ta l.length tc, .int .i64 ((A : Int) + 1)] 44 (0, 0)) := Qr.blk_set1 kg3 _; have hF4 : Qr.Fr g w (w3.setCell ⟨g, 1, none⟩ (.int .i64 ((A : Int) + 1))) := hF3.set rfl _; have hPS4 : Qr.PS g l r.tail (w3.setCell ⟨g, 1, none⟩ (.int .i64 ((A : Int) + 1))) := Qr.PS.of HPP.out KG.out hF4 HTE.out.1 kg4 HA1.out; have kR4 := Tx.blk_far (a := ⟨g, 1, none⟩) kR3 (show w.heap.size ≠ g by omega) (.int .i64 ((A : Int) + 1)); have KG4 := Lib.hid kg4; have KR4 := Lib.hid kR4; clear kT3 kg3 kR3 kg4 kR4 e30 e31)
        | (go_at_call 76; refine (L1 _ (hP1.below (Tx.newb _ _))).mono ?_; rintro e w2 ⟨rfl, hb2⟩; have s1 : w.heap.size < w1.heap.size := (by have := hb1.size; simp at this; omega); have s2 : w1.heap.size < w2.heap.size := (by have := hb2.size; simp at this; omega); have kT2 : (w2.alloc (.cells #[.int .u8 58, .string ⟨nt.toArray⟩, .bool false] 77)).heap[w1.heap.size]? = some (.cells #[.int .u8 K, .string ⟨tt.toArray⟩, .bool tg] 77 (0, 0)) := Tx.blk_later (Tx.blk_later (heap_alloc_new w1 (.cells #[.int .u8 K, .string ⟨tt.toArray⟩, .bool tg] 77)) hb2) (Tx.newb w2 _); have kg2 : (w2.alloc (.cells #[.int .u8 58, .string ⟨nt.toArray⟩, .bool false] 77)).heap[g]? = some (.cells #[.slice ta l.length tc, .int .i64 (A : Int)] 44 (0, 0)) := Tx.blk_later (Tx.blk_later (Tx.blk_later (Tx.blk_later (Tx.blk_later KG.out (Tx.newb _ _)) hb1) (Tx.newb _ _)) hb2) (Tx.newb w2 _); have kR2 : (w2.alloc (.cells #[.int .u8 58, .string ⟨nt.toArray⟩, .bool false] 77)).heap[w.heap.size]? = some (.cells Qr.zeroQ 25 (0, 0)) := Tx.blk_later (Tx.blk_later (Tx.blk_later (Tx.blk_later (heap_alloc_new w _) hb1) (Tx.newb _ _)) hb2) (Tx.newb w2 _); have hF2 : Qr.Fr g w (w2.alloc (.cells #[.int .u8 58, .string ⟨nt.toArray⟩, .bool false] 77)) := (((((Qr.Fr.refl g w).alloc _).trans (.of_below hb1)).alloc _).trans (.of_below hb2)).alloc _; have e30 : (w2.alloc (.cells #[.int .u8 58, .string ⟨nt.toArray⟩, .bool false] 77)).cell? ⟨w1.heap.size, 0, none⟩ = some (.int .u8 K) := (Tx.blk kT2).1 0; have e31 : (w2.alloc (.cells #[.int .u8 58, .string ⟨nt.toArray⟩, .bool false] 77)).cell? ⟨w1.heap.size, 1, none⟩ = some (.string ⟨tt.toArray⟩) := (Tx.blk kT2).1 1; have hPS2 := Qr.PS.of HPP.out KG.out hF2 (List.suffix_refl _) kg2 HAA.out; have KG2 := Lib.hid kg2; have KT2 := Lib.hid kT2; have KR2 := Lib.hid kR2; clear kg2 kT2 kR2)
        | (go_at_call 76; refine (L0 _ hP0).mono ?_; rintro e w1 ⟨rfl, hb1⟩; have hP1 := hP0.below hb1))
      all_goals exact ⟨rfl, rfl, hF3⟩
  · rcases hpass with hp | ⟨rfl, rfl⟩
    · go_enter Tryz.func95, Tryz.ntmps95
      go_wp2_with (first
        | (go_at_call 107; refine (CUT _ hPS2.gp.g).mono ?_; rintro e w3 ⟨rfl, hb3⟩; have s3 := hb3.size; have kT3 := Tx.blk_later KT2.out hb3; have kg3 := Tx.blk_later KG2.out hb3; have kR3 := Tx.blk_later KR2.out hb3; have hF3 := hF2.trans (.of_below hb3); have e50 : w3.cell? ⟨w1.heap.size, 0, none⟩ = some (.int .u8 114) := (Tx.blk kT3).1 0; have eg : w3.cell? ⟨g, 1, none⟩ = some (.int .i64 (A : Int)) := (Tx.blk kg3).1 1; have fg : ∀ i, w3.frozen? ⟨g, i, none⟩ = false := (Tx.blk kg3).2.1; have kg4 : (w3.setCell ⟨g, 1, none⟩ (.int .i64 ((A : Int) + 1))).heap[g]? = some (.cells #[.slice ta l.length tc, .int .i64 ((A : Int) + 1)] 44 (0, 0)) := Qr.blk_set1 kg3 _; have hF4 : Qr.Fr g w (w3.setCell ⟨g, 1, none⟩ (.int .i64 ((A : Int) + 1))) := hF3.set rfl _; have hPS4 : Qr.PS g l r.tail (w3.setCell ⟨g, 1, none⟩ (.int .i64 ((A : Int) + 1))) := Qr.PS.of HPP.out KG.out hF4 HTE.out.1 kg4 HA1.out; have kR4 := Tx.blk_far (a := ⟨g, 1, none⟩) kR3 (show w.heap.size ≠ g by omega) (.int .i64 ((A : Int) + 1)); have KG4 := Lib.hid kg4; have KR4 := Lib.hid kR4; clear kT3 kg3 kR3 kg4 kR4 e30 e31)
        | (go_at_call 76; refine (L1 _ (hP1.below (Tx.newb _ _))).mono ?_; rintro e w2 ⟨rfl, hb2⟩; have s1 : w.heap.size < w1.heap.size := (by have := hb1.size; simp at this; omega); have s2 : w1.heap.size < w2.heap.size := (by have := hb2.size; simp at this; omega); have kT2 : (w2.alloc (.cells #[.int .u8 N, .string ⟨nt.toArray⟩, .bool ng] 77)).heap[w1.heap.size]? = some (.cells #[.int .u8 114, .string ⟨tt.toArray⟩, .bool tg] 77 (0, 0)) := Tx.blk_later (Tx.blk_later (heap_alloc_new w1 (.cells #[.int .u8 114, .string ⟨tt.toArray⟩, .bool tg] 77)) hb2) (Tx.newb w2 _); have kg2 : (w2.alloc (.cells #[.int .u8 N, .string ⟨nt.toArray⟩, .bool ng] 77)).heap[g]? = some (.cells #[.slice ta l.length tc, .int .i64 (A : Int)] 44 (0, 0)) := Tx.blk_later (Tx.blk_later (Tx.blk_later (Tx.blk_later (Tx.blk_later KG.out (Tx.newb _ _)) hb1) (Tx.newb _ _)) hb2) (Tx.newb w2 _); have kR2 : (w2.alloc (.cells #[.int .u8 N, .string ⟨nt.toArray⟩, .bool ng] 77)).heap[w.heap.size]? = some (.cells Qr.zeroQ 25 (0, 0)) := Tx.blk_later (Tx.blk_later (Tx.blk_later (Tx.blk_later (heap_alloc_new w _) hb1) (Tx.newb _ _)) hb2) (Tx.newb w2 _); have hF2 : Qr.Fr g w (w2.alloc (.cells #[.int .u8 N, .string ⟨nt.toArray⟩, .bool ng] 77)) := (((((Qr.Fr.refl g w).alloc _).trans (.of_below hb1)).alloc _).trans (.of_below hb2)).alloc _; have e30 : (w2.alloc (.cells #[.int .u8 N, .string ⟨nt.toArray⟩, .bool ng] 77)).cell? ⟨w1.heap.size, 0, none⟩ = some (.int .u8 114) := (Tx.blk kT2).1 0; have e31 : (w2.alloc (.cells #[.int .u8 N, .string ⟨nt.toArray⟩, .bool ng] 77)).cell? ⟨w1.heap.size, 1, none⟩ = some (.string ⟨tt.toArray⟩) := (Tx.blk kT2).1 1; have hPS2 := Qr.PS.of HPP.out KG.out hF2 (List.suffix_refl _) kg2 HAA.out; have KG2 := Lib.hid kg2; have KT2 := Lib.hid kT2; have KR2 := Lib.hid kR2; clear kg2 kT2 kR2)
        | (go_at_call 76; refine (L0 _ hP0).mono ?_; rintro e w1 ⟨rfl, hb1⟩; have hP1 := hP0.below hb1))
      all_goals exact ⟨rfl, rfl, hF3⟩
    · go_enter Tryz.func95, Tryz.ntmps95
      go_wp2_with (first
        | (go_at_call 107; refine (CUT _ hPS2.gp.g).mono ?_; rintro e w3 ⟨rfl, hb3⟩; have s3 := hb3.size; have kT3 := Tx.blk_later KT2.out hb3; have kg3 := Tx.blk_later KG2.out hb3; have kR3 := Tx.blk_later KR2.out hb3; have hF3 := hF2.trans (.of_below hb3); have e50 : w3.cell? ⟨w1.heap.size, 0, none⟩ = some (.int .u8 114) := (Tx.blk kT3).1 0; have eg : w3.cell? ⟨g, 1, none⟩ = some (.int .i64 (A : Int)) := (Tx.blk kg3).1 1; have fg : ∀ i, w3.frozen? ⟨g, i, none⟩ = false := (Tx.blk kg3).2.1; have kg4 : (w3.setCell ⟨g, 1, none⟩ (.int .i64 ((A : Int) + 1))).heap[g]? = some (.cells #[.slice ta l.length tc, .int .i64 ((A : Int) + 1)] 44 (0, 0)) := Qr.blk_set1 kg3 _; have hF4 : Qr.Fr g w (w3.setCell ⟨g, 1, none⟩ (.int .i64 ((A : Int) + 1))) := hF3.set rfl _; have hPS4 : Qr.PS g l r.tail (w3.setCell ⟨g, 1, none⟩ (.int .i64 ((A : Int) + 1))) := Qr.PS.of HPP.out KG.out hF4 HTE.out.1 kg4 HA1.out; have kR4 := Tx.blk_far (a := ⟨g, 1, none⟩) kR3 (show w.heap.size ≠ g by omega) (.int .i64 ((A : Int) + 1)); have KG4 := Lib.hid kg4; have KR4 := Lib.hid kR4; clear kT3 kg3 kR3 kg4 kR4 e30 e31)
        | (go_at_call 76; refine (L1 _ (hP1.below (Tx.newb _ _))).mono ?_; rintro e w2 ⟨rfl, hb2⟩; have s1 : w.heap.size < w1.heap.size := (by have := hb1.size; simp at this; omega); have s2 : w1.heap.size < w2.heap.size := (by have := hb2.size; simp at this; omega); have kT2 : (w2.alloc (.cells #[.int .u8 58, .string ⟨nt.toArray⟩, .bool false] 77)).heap[w1.heap.size]? = some (.cells #[.int .u8 114, .string ⟨tt.toArray⟩, .bool tg] 77 (0, 0)) := Tx.blk_later (Tx.blk_later (heap_alloc_new w1 (.cells #[.int .u8 114, .string ⟨tt.toArray⟩, .bool tg] 77)) hb2) (Tx.newb w2 _); have kg2 : (w2.alloc (.cells #[.int .u8 58, .string ⟨nt.toArray⟩, .bool false] 77)).heap[g]? = some (.cells #[.slice ta l.length tc, .int .i64 (A : Int)] 44 (0, 0)) := Tx.blk_later (Tx.blk_later (Tx.blk_later (Tx.blk_later (Tx.blk_later KG.out (Tx.newb _ _)) hb1) (Tx.newb _ _)) hb2) (Tx.newb w2 _); have kR2 : (w2.alloc (.cells #[.int .u8 58, .string ⟨nt.toArray⟩, .bool false] 77)).heap[w.heap.size]? = some (.cells Qr.zeroQ 25 (0, 0)) := Tx.blk_later (Tx.blk_later (Tx.blk_later (Tx.blk_later (heap_alloc_new w _) hb1) (Tx.newb _ _)) hb2) (Tx.newb w2 _); have hF2 : Qr.Fr g w (w2.alloc (.cells #[.int .u8 58, .string ⟨nt.toArray⟩, .bool false] 77)) := (((((Qr.Fr.refl g w).alloc _).trans (.of_below hb1)).alloc _).trans (.of_below hb2)).alloc _; have e30 : (w2.alloc (.cells #[.int .u8 58, .string ⟨nt.toArray⟩, .bool false] 77)).cell? ⟨w1.heap.size, 0, none⟩ = some (.int .u8 114) := (Tx.blk kT2).1 0; have e31 : (w2.alloc (.cells #[.int .u8 58, .string ⟨nt.toArray⟩, .bool false] 77)).cell? ⟨w1.heap.size, 1, none⟩ = some (.string ⟨tt.toArray⟩) := (Tx.blk kT2).1 1; have hPS2 := Qr.PS.of HPP.out KG.out hF2 (List.suffix_refl _) kg2 HAA.out; have KG2 := Lib.hid kg2; have KT2 := Lib.hid kT2; have KR2 := Lib.hid kR2; clear kg2 kT2 kR2)
        | (go_at_call 76; refine (L0 _ hP0).mono ?_; rintro e w1 ⟨rfl, hb1⟩; have hP1 := hP0.below hb1))
      all_goals exact ⟨rfl, rfl, hF3⟩

set_option maxHeartbeats 1600000 in
theorem years_n1 (g : Nat) (l r : List Qr.Tok) (w : World) (hP : Qr.PS g l r w) (kk nk : UInt8) (tt nt : List UInt8) (tg ng : Bool) (K N : Int) (ht : Qr.lk r = ⟨kk, tt, tg⟩) (hK : (kk.toNat : Int) = K) (hn : Qr.lk1 r = ⟨nk, nt, ng⟩) (hN : (nk.toNat : Int) = N) (hk0 : kk ≠ 0) (hpass : (N == 58) = false ∨ (N = 58 ∧ ng = false)) (x y : List UInt8) (hcut : Lib.cut tt [45] = (x, y, true)) (hxs : x.length ≤ 1000) (hK4 : K = 114) (h1 : Qr.yearN x = none) :
    Calls Tryz.prog 95 #[.pointer (some ⟨g, 0, none⟩)] w fun e w' => e = .panicked [{ v := Qr.wrongP, recovered := false }] ∧ Qr.Fr g w w' := by
  have hk1 : (Qr.lk r).k ≠ 0 := by rw [ht]; exact hk0
  have htok := hP.tok hk1
  rw [ht] at htok
  simp only at htok
  have hsz : tt.length ≤ 1000 := by omega
  have hte := Qr.tail_eats hk1
  have hsl := hP.suf.length_le
  have hll := hP.len
  have L0 := fun w h => look0 (K := K) (w := w) (g := g) (l := l) ht hK h
  have L1 := fun w h => look1 (K := N) (w := w) (g := g) (l := l) hn hN h
  obtain ⟨ta, tc, kg, _, _⟩ := hP.blk
  obtain ⟨A, hA⟩ : ∃ A, l.length - r.length = A := ⟨_, rfl⟩
  rw [hA] at kg
  have HAA := Lib.hid (show (A : Int) = ((l.length - r.length : Nat) : Int) by omega)
  have hA1 : (A : Int) + 1 = ((l.length - r.tail.length : Nat) : Int) := by have := hte.2; rw [List.length_tail] at this ⊢; omega
  have hw1 := IntWalk.i64_in ((A : Int) + 1) ⟨by omega, by omega⟩
  have hgl := hP.lt
  have hP0 := hP.below (Tx.newb w (.cells Qr.zeroQ 25))
  have KG := Lib.hid kg; clear kg
  have HA1 := Lib.hid hA1; clear hA1
  have HV := Lib.hid htok.1; clear htok
  have HTE := Lib.hid hte; clear hte
  have HPP := Lib.hid hP; clear hP
  clear ht hn hK hN hk0 hA hk1
  have CUT := fun w h => cut_c tt x y true w h hsz hcut
  have Y1 := fun w h => year_none h1 hxs w h
  clear hcut h1 hxs
  subst hK4
  rcases hpass with hp | ⟨rfl, rfl⟩
  · go_enter Tryz.func95, Tryz.ntmps95
    go_wp2_with (first
      | (go_at_call 108; refine (Y1 _ hPS4.gp.g).mono ?_; rintro e w5 ⟨rfl, hb5⟩; have s5 := hb5.size; have KG5 := Lib.hid (Tx.blk_later KG4.out hb5); have KR5 := Lib.hid (Tx.blk_later KR4.out hb5); have hF5 := hF4.trans (.of_below hb5); have hG5 := (hPS4.below hb5).gp.g)
      | (go_at_call 107; refine (CUT _ hPS2.gp.g).mono ?_; rintro e w3 ⟨rfl, hb3⟩; have s3 := hb3.size; have kT3 := Tx.blk_later KT2.out hb3; have kg3 := Tx.blk_later KG2.out hb3; have kR3 := Tx.blk_later KR2.out hb3; have hF3 := hF2.trans (.of_below hb3); have e50 : w3.cell? ⟨w1.heap.size, 0, none⟩ = some (.int .u8 114) := (Tx.blk kT3).1 0; have eg : w3.cell? ⟨g, 1, none⟩ = some (.int .i64 (A : Int)) := (Tx.blk kg3).1 1; have fg : ∀ i, w3.frozen? ⟨g, i, none⟩ = false := (Tx.blk kg3).2.1; have kg4 : (w3.setCell ⟨g, 1, none⟩ (.int .i64 ((A : Int) + 1))).heap[g]? = some (.cells #[.slice ta l.length tc, .int .i64 ((A : Int) + 1)] 44 (0, 0)) := Qr.blk_set1 kg3 _; have hF4 : Qr.Fr g w (w3.setCell ⟨g, 1, none⟩ (.int .i64 ((A : Int) + 1))) := hF3.set rfl _; have hPS4 : Qr.PS g l r.tail (w3.setCell ⟨g, 1, none⟩ (.int .i64 ((A : Int) + 1))) := Qr.PS.of HPP.out KG.out hF4 HTE.out.1 kg4 HA1.out; have kR4 := Tx.blk_far (a := ⟨g, 1, none⟩) kR3 (show w.heap.size ≠ g by omega) (.int .i64 ((A : Int) + 1)); have KG4 := Lib.hid kg4; have KR4 := Lib.hid kR4; clear kT3 kg3 kR3 kg4 kR4 e30 e31)
      | (go_at_call 76; refine (L1 _ (hP1.below (Tx.newb _ _))).mono ?_; rintro e w2 ⟨rfl, hb2⟩; have s1 : w.heap.size < w1.heap.size := (by have := hb1.size; simp at this; omega); have s2 : w1.heap.size < w2.heap.size := (by have := hb2.size; simp at this; omega); have kT2 : (w2.alloc (.cells #[.int .u8 N, .string ⟨nt.toArray⟩, .bool ng] 77)).heap[w1.heap.size]? = some (.cells #[.int .u8 114, .string ⟨tt.toArray⟩, .bool tg] 77 (0, 0)) := Tx.blk_later (Tx.blk_later (heap_alloc_new w1 (.cells #[.int .u8 114, .string ⟨tt.toArray⟩, .bool tg] 77)) hb2) (Tx.newb w2 _); have kg2 : (w2.alloc (.cells #[.int .u8 N, .string ⟨nt.toArray⟩, .bool ng] 77)).heap[g]? = some (.cells #[.slice ta l.length tc, .int .i64 (A : Int)] 44 (0, 0)) := Tx.blk_later (Tx.blk_later (Tx.blk_later (Tx.blk_later (Tx.blk_later KG.out (Tx.newb _ _)) hb1) (Tx.newb _ _)) hb2) (Tx.newb w2 _); have kR2 : (w2.alloc (.cells #[.int .u8 N, .string ⟨nt.toArray⟩, .bool ng] 77)).heap[w.heap.size]? = some (.cells Qr.zeroQ 25 (0, 0)) := Tx.blk_later (Tx.blk_later (Tx.blk_later (Tx.blk_later (heap_alloc_new w _) hb1) (Tx.newb _ _)) hb2) (Tx.newb w2 _); have hF2 : Qr.Fr g w (w2.alloc (.cells #[.int .u8 N, .string ⟨nt.toArray⟩, .bool ng] 77)) := (((((Qr.Fr.refl g w).alloc _).trans (.of_below hb1)).alloc _).trans (.of_below hb2)).alloc _; have e30 : (w2.alloc (.cells #[.int .u8 N, .string ⟨nt.toArray⟩, .bool ng] 77)).cell? ⟨w1.heap.size, 0, none⟩ = some (.int .u8 114) := (Tx.blk kT2).1 0; have e31 : (w2.alloc (.cells #[.int .u8 N, .string ⟨nt.toArray⟩, .bool ng] 77)).cell? ⟨w1.heap.size, 1, none⟩ = some (.string ⟨tt.toArray⟩) := (Tx.blk kT2).1 1; have hPS2 := Qr.PS.of HPP.out KG.out hF2 (List.suffix_refl _) kg2 HAA.out; have KG2 := Lib.hid kg2; have KT2 := Lib.hid kT2; have KR2 := Lib.hid kR2; clear kg2 kT2 kR2)
      | (go_at_call 76; refine (L0 _ hP0).mono ?_; rintro e w1 ⟨rfl, hb1⟩; have hP1 := hP0.below hb1))
    exact ⟨rfl, rfl, hF5⟩
  · go_enter Tryz.func95, Tryz.ntmps95
    go_wp2_with (first
      | (go_at_call 108; refine (Y1 _ hPS4.gp.g).mono ?_; rintro e w5 ⟨rfl, hb5⟩; have s5 := hb5.size; have KG5 := Lib.hid (Tx.blk_later KG4.out hb5); have KR5 := Lib.hid (Tx.blk_later KR4.out hb5); have hF5 := hF4.trans (.of_below hb5); have hG5 := (hPS4.below hb5).gp.g)
      | (go_at_call 107; refine (CUT _ hPS2.gp.g).mono ?_; rintro e w3 ⟨rfl, hb3⟩; have s3 := hb3.size; have kT3 := Tx.blk_later KT2.out hb3; have kg3 := Tx.blk_later KG2.out hb3; have kR3 := Tx.blk_later KR2.out hb3; have hF3 := hF2.trans (.of_below hb3); have e50 : w3.cell? ⟨w1.heap.size, 0, none⟩ = some (.int .u8 114) := (Tx.blk kT3).1 0; have eg : w3.cell? ⟨g, 1, none⟩ = some (.int .i64 (A : Int)) := (Tx.blk kg3).1 1; have fg : ∀ i, w3.frozen? ⟨g, i, none⟩ = false := (Tx.blk kg3).2.1; have kg4 : (w3.setCell ⟨g, 1, none⟩ (.int .i64 ((A : Int) + 1))).heap[g]? = some (.cells #[.slice ta l.length tc, .int .i64 ((A : Int) + 1)] 44 (0, 0)) := Qr.blk_set1 kg3 _; have hF4 : Qr.Fr g w (w3.setCell ⟨g, 1, none⟩ (.int .i64 ((A : Int) + 1))) := hF3.set rfl _; have hPS4 : Qr.PS g l r.tail (w3.setCell ⟨g, 1, none⟩ (.int .i64 ((A : Int) + 1))) := Qr.PS.of HPP.out KG.out hF4 HTE.out.1 kg4 HA1.out; have kR4 := Tx.blk_far (a := ⟨g, 1, none⟩) kR3 (show w.heap.size ≠ g by omega) (.int .i64 ((A : Int) + 1)); have KG4 := Lib.hid kg4; have KR4 := Lib.hid kR4; clear kT3 kg3 kR3 kg4 kR4 e30 e31)
      | (go_at_call 76; refine (L1 _ (hP1.below (Tx.newb _ _))).mono ?_; rintro e w2 ⟨rfl, hb2⟩; have s1 : w.heap.size < w1.heap.size := (by have := hb1.size; simp at this; omega); have s2 : w1.heap.size < w2.heap.size := (by have := hb2.size; simp at this; omega); have kT2 : (w2.alloc (.cells #[.int .u8 58, .string ⟨nt.toArray⟩, .bool false] 77)).heap[w1.heap.size]? = some (.cells #[.int .u8 114, .string ⟨tt.toArray⟩, .bool tg] 77 (0, 0)) := Tx.blk_later (Tx.blk_later (heap_alloc_new w1 (.cells #[.int .u8 114, .string ⟨tt.toArray⟩, .bool tg] 77)) hb2) (Tx.newb w2 _); have kg2 : (w2.alloc (.cells #[.int .u8 58, .string ⟨nt.toArray⟩, .bool false] 77)).heap[g]? = some (.cells #[.slice ta l.length tc, .int .i64 (A : Int)] 44 (0, 0)) := Tx.blk_later (Tx.blk_later (Tx.blk_later (Tx.blk_later (Tx.blk_later KG.out (Tx.newb _ _)) hb1) (Tx.newb _ _)) hb2) (Tx.newb w2 _); have kR2 : (w2.alloc (.cells #[.int .u8 58, .string ⟨nt.toArray⟩, .bool false] 77)).heap[w.heap.size]? = some (.cells Qr.zeroQ 25 (0, 0)) := Tx.blk_later (Tx.blk_later (Tx.blk_later (Tx.blk_later (heap_alloc_new w _) hb1) (Tx.newb _ _)) hb2) (Tx.newb w2 _); have hF2 : Qr.Fr g w (w2.alloc (.cells #[.int .u8 58, .string ⟨nt.toArray⟩, .bool false] 77)) := (((((Qr.Fr.refl g w).alloc _).trans (.of_below hb1)).alloc _).trans (.of_below hb2)).alloc _; have e30 : (w2.alloc (.cells #[.int .u8 58, .string ⟨nt.toArray⟩, .bool false] 77)).cell? ⟨w1.heap.size, 0, none⟩ = some (.int .u8 114) := (Tx.blk kT2).1 0; have e31 : (w2.alloc (.cells #[.int .u8 58, .string ⟨nt.toArray⟩, .bool false] 77)).cell? ⟨w1.heap.size, 1, none⟩ = some (.string ⟨tt.toArray⟩) := (Tx.blk kT2).1 1; have hPS2 := Qr.PS.of HPP.out KG.out hF2 (List.suffix_refl _) kg2 HAA.out; have KG2 := Lib.hid kg2; have KT2 := Lib.hid kT2; have KR2 := Lib.hid kR2; clear kg2 kT2 kR2)
      | (go_at_call 76; refine (L0 _ hP0).mono ?_; rintro e w1 ⟨rfl, hb1⟩; have hP1 := hP0.below hb1))
    exact ⟨rfl, rfl, hF5⟩

set_option maxHeartbeats 1600000 in
theorem years_n2 (g : Nat) (l r : List Qr.Tok) (w : World) (hP : Qr.PS g l r w) (kk nk : UInt8) (tt nt : List UInt8) (tg ng : Bool) (K N : Int) (ht : Qr.lk r = ⟨kk, tt, tg⟩) (hK : (kk.toNat : Int) = K) (hn : Qr.lk1 r = ⟨nk, nt, ng⟩) (hN : (nk.toNat : Int) = N) (hk0 : kk ≠ 0) (hpass : (N == 58) = false ∨ (N = 58 ∧ ng = false)) (x y : List UInt8) (hcut : Lib.cut tt [45] = (x, y, true)) (hxs : x.length ≤ 1000) (hys : y.length ≤ 1000) (hK4 : K = 114) (m : Nat) (h1 : Qr.yearN x = some m) (h2 : Qr.yearN y = none) :
    Calls Tryz.prog 95 #[.pointer (some ⟨g, 0, none⟩)] w fun e w' => e = .panicked [{ v := Qr.wrongP, recovered := false }] ∧ Qr.Fr g w w' := by
  have hk1 : (Qr.lk r).k ≠ 0 := by rw [ht]; exact hk0
  have htok := hP.tok hk1
  rw [ht] at htok
  simp only at htok
  have hsz : tt.length ≤ 1000 := by omega
  have hte := Qr.tail_eats hk1
  have hsl := hP.suf.length_le
  have hll := hP.len
  have L0 := fun w h => look0 (K := K) (w := w) (g := g) (l := l) ht hK h
  have L1 := fun w h => look1 (K := N) (w := w) (g := g) (l := l) hn hN h
  obtain ⟨ta, tc, kg, _, _⟩ := hP.blk
  obtain ⟨A, hA⟩ : ∃ A, l.length - r.length = A := ⟨_, rfl⟩
  rw [hA] at kg
  have HAA := Lib.hid (show (A : Int) = ((l.length - r.length : Nat) : Int) by omega)
  have hA1 : (A : Int) + 1 = ((l.length - r.tail.length : Nat) : Int) := by have := hte.2; rw [List.length_tail] at this ⊢; omega
  have hw1 := IntWalk.i64_in ((A : Int) + 1) ⟨by omega, by omega⟩
  have hgl := hP.lt
  have hP0 := hP.below (Tx.newb w (.cells Qr.zeroQ 25))
  have KG := Lib.hid kg; clear kg
  have HA1 := Lib.hid hA1; clear hA1
  have HV := Lib.hid htok.1; clear htok
  have HTE := Lib.hid hte; clear hte
  have HPP := Lib.hid hP; clear hP
  clear ht hn hK hN hk0 hA hk1
  have CUT := fun w h => cut_c tt x y true w h hsz hcut
  have Y1 := fun w h => year_some h1 hxs w h
  have Y2 := fun w h => year_none h2 hys w h
  clear hcut h1 h2 hxs hys
  subst hK4
  rcases hpass with hp | ⟨rfl, rfl⟩
  · go_enter Tryz.func95, Tryz.ntmps95
    go_wp2_with (first
      | (go_at_call 108; refine (Y2 _ hG5).mono ?_; rintro e w6 ⟨rfl, hb6⟩; have s6 := hb6.size; have kg6 := Tx.blk_later KG5.out hb6; have kR6 := Tx.blk_later KR5.out hb6; have hF6 := hF5.trans (.of_below hb6); obtain ⟨kc6, kf6, kl6⟩ := Tx.blk kR6; have z0 : w6.cell? ⟨w.heap.size, 0, none⟩ = some (.int .i64 0) := kc6 0; have z1 : w6.cell? ⟨w.heap.size, 1, none⟩ = some (.int .i64 0) := kc6 1; have z2 : w6.cell? ⟨w.heap.size, 2, none⟩ = some (.slice none 0 0) := kc6 2; have z3 : w6.cell? ⟨w.heap.size, 3, none⟩ = some (.int .i64 0) := kc6 3; have z4 : w6.cell? ⟨w.heap.size, 4, none⟩ = some (.int .i64 0) := kc6 4; have z5 : w6.cell? ⟨w.heap.size, 5, none⟩ = some (.slice none 0 0) := kc6 5; have KG6 := Lib.hid kg6; have KR6 := Lib.hid kR6; clear kg6 kR6 kc6)
      | (go_at_call 108; refine (Y1 _ hPS4.gp.g).mono ?_; rintro e w5 ⟨rfl, hb5⟩; have s5 := hb5.size; have KG5 := Lib.hid (Tx.blk_later KG4.out hb5); have KR5 := Lib.hid (Tx.blk_later KR4.out hb5); have hF5 := hF4.trans (.of_below hb5); have hG5 := (hPS4.below hb5).gp.g)
      | (go_at_call 107; refine (CUT _ hPS2.gp.g).mono ?_; rintro e w3 ⟨rfl, hb3⟩; have s3 := hb3.size; have kT3 := Tx.blk_later KT2.out hb3; have kg3 := Tx.blk_later KG2.out hb3; have kR3 := Tx.blk_later KR2.out hb3; have hF3 := hF2.trans (.of_below hb3); have e50 : w3.cell? ⟨w1.heap.size, 0, none⟩ = some (.int .u8 114) := (Tx.blk kT3).1 0; have eg : w3.cell? ⟨g, 1, none⟩ = some (.int .i64 (A : Int)) := (Tx.blk kg3).1 1; have fg : ∀ i, w3.frozen? ⟨g, i, none⟩ = false := (Tx.blk kg3).2.1; have kg4 : (w3.setCell ⟨g, 1, none⟩ (.int .i64 ((A : Int) + 1))).heap[g]? = some (.cells #[.slice ta l.length tc, .int .i64 ((A : Int) + 1)] 44 (0, 0)) := Qr.blk_set1 kg3 _; have hF4 : Qr.Fr g w (w3.setCell ⟨g, 1, none⟩ (.int .i64 ((A : Int) + 1))) := hF3.set rfl _; have hPS4 : Qr.PS g l r.tail (w3.setCell ⟨g, 1, none⟩ (.int .i64 ((A : Int) + 1))) := Qr.PS.of HPP.out KG.out hF4 HTE.out.1 kg4 HA1.out; have kR4 := Tx.blk_far (a := ⟨g, 1, none⟩) kR3 (show w.heap.size ≠ g by omega) (.int .i64 ((A : Int) + 1)); have KG4 := Lib.hid kg4; have KR4 := Lib.hid kR4; clear kT3 kg3 kR3 kg4 kR4 e30 e31)
      | (go_at_call 76; refine (L1 _ (hP1.below (Tx.newb _ _))).mono ?_; rintro e w2 ⟨rfl, hb2⟩; have s1 : w.heap.size < w1.heap.size := (by have := hb1.size; simp at this; omega); have s2 : w1.heap.size < w2.heap.size := (by have := hb2.size; simp at this; omega); have kT2 : (w2.alloc (.cells #[.int .u8 N, .string ⟨nt.toArray⟩, .bool ng] 77)).heap[w1.heap.size]? = some (.cells #[.int .u8 114, .string ⟨tt.toArray⟩, .bool tg] 77 (0, 0)) := Tx.blk_later (Tx.blk_later (heap_alloc_new w1 (.cells #[.int .u8 114, .string ⟨tt.toArray⟩, .bool tg] 77)) hb2) (Tx.newb w2 _); have kg2 : (w2.alloc (.cells #[.int .u8 N, .string ⟨nt.toArray⟩, .bool ng] 77)).heap[g]? = some (.cells #[.slice ta l.length tc, .int .i64 (A : Int)] 44 (0, 0)) := Tx.blk_later (Tx.blk_later (Tx.blk_later (Tx.blk_later (Tx.blk_later KG.out (Tx.newb _ _)) hb1) (Tx.newb _ _)) hb2) (Tx.newb w2 _); have kR2 : (w2.alloc (.cells #[.int .u8 N, .string ⟨nt.toArray⟩, .bool ng] 77)).heap[w.heap.size]? = some (.cells Qr.zeroQ 25 (0, 0)) := Tx.blk_later (Tx.blk_later (Tx.blk_later (Tx.blk_later (heap_alloc_new w _) hb1) (Tx.newb _ _)) hb2) (Tx.newb w2 _); have hF2 : Qr.Fr g w (w2.alloc (.cells #[.int .u8 N, .string ⟨nt.toArray⟩, .bool ng] 77)) := (((((Qr.Fr.refl g w).alloc _).trans (.of_below hb1)).alloc _).trans (.of_below hb2)).alloc _; have e30 : (w2.alloc (.cells #[.int .u8 N, .string ⟨nt.toArray⟩, .bool ng] 77)).cell? ⟨w1.heap.size, 0, none⟩ = some (.int .u8 114) := (Tx.blk kT2).1 0; have e31 : (w2.alloc (.cells #[.int .u8 N, .string ⟨nt.toArray⟩, .bool ng] 77)).cell? ⟨w1.heap.size, 1, none⟩ = some (.string ⟨tt.toArray⟩) := (Tx.blk kT2).1 1; have hPS2 := Qr.PS.of HPP.out KG.out hF2 (List.suffix_refl _) kg2 HAA.out; have KG2 := Lib.hid kg2; have KT2 := Lib.hid kT2; have KR2 := Lib.hid kR2; clear kg2 kT2 kR2)
      | (go_at_call 76; refine (L0 _ hP0).mono ?_; rintro e w1 ⟨rfl, hb1⟩; have hP1 := hP0.below hb1))
    exact ⟨rfl, rfl, hF6⟩
  · go_enter Tryz.func95, Tryz.ntmps95
    go_wp2_with (first
      | (go_at_call 108; refine (Y2 _ hG5).mono ?_; rintro e w6 ⟨rfl, hb6⟩; have s6 := hb6.size; have kg6 := Tx.blk_later KG5.out hb6; have kR6 := Tx.blk_later KR5.out hb6; have hF6 := hF5.trans (.of_below hb6); obtain ⟨kc6, kf6, kl6⟩ := Tx.blk kR6; have z0 : w6.cell? ⟨w.heap.size, 0, none⟩ = some (.int .i64 0) := kc6 0; have z1 : w6.cell? ⟨w.heap.size, 1, none⟩ = some (.int .i64 0) := kc6 1; have z2 : w6.cell? ⟨w.heap.size, 2, none⟩ = some (.slice none 0 0) := kc6 2; have z3 : w6.cell? ⟨w.heap.size, 3, none⟩ = some (.int .i64 0) := kc6 3; have z4 : w6.cell? ⟨w.heap.size, 4, none⟩ = some (.int .i64 0) := kc6 4; have z5 : w6.cell? ⟨w.heap.size, 5, none⟩ = some (.slice none 0 0) := kc6 5; have KG6 := Lib.hid kg6; have KR6 := Lib.hid kR6; clear kg6 kR6 kc6)
      | (go_at_call 108; refine (Y1 _ hPS4.gp.g).mono ?_; rintro e w5 ⟨rfl, hb5⟩; have s5 := hb5.size; have KG5 := Lib.hid (Tx.blk_later KG4.out hb5); have KR5 := Lib.hid (Tx.blk_later KR4.out hb5); have hF5 := hF4.trans (.of_below hb5); have hG5 := (hPS4.below hb5).gp.g)
      | (go_at_call 107; refine (CUT _ hPS2.gp.g).mono ?_; rintro e w3 ⟨rfl, hb3⟩; have s3 := hb3.size; have kT3 := Tx.blk_later KT2.out hb3; have kg3 := Tx.blk_later KG2.out hb3; have kR3 := Tx.blk_later KR2.out hb3; have hF3 := hF2.trans (.of_below hb3); have e50 : w3.cell? ⟨w1.heap.size, 0, none⟩ = some (.int .u8 114) := (Tx.blk kT3).1 0; have eg : w3.cell? ⟨g, 1, none⟩ = some (.int .i64 (A : Int)) := (Tx.blk kg3).1 1; have fg : ∀ i, w3.frozen? ⟨g, i, none⟩ = false := (Tx.blk kg3).2.1; have kg4 : (w3.setCell ⟨g, 1, none⟩ (.int .i64 ((A : Int) + 1))).heap[g]? = some (.cells #[.slice ta l.length tc, .int .i64 ((A : Int) + 1)] 44 (0, 0)) := Qr.blk_set1 kg3 _; have hF4 : Qr.Fr g w (w3.setCell ⟨g, 1, none⟩ (.int .i64 ((A : Int) + 1))) := hF3.set rfl _; have hPS4 : Qr.PS g l r.tail (w3.setCell ⟨g, 1, none⟩ (.int .i64 ((A : Int) + 1))) := Qr.PS.of HPP.out KG.out hF4 HTE.out.1 kg4 HA1.out; have kR4 := Tx.blk_far (a := ⟨g, 1, none⟩) kR3 (show w.heap.size ≠ g by omega) (.int .i64 ((A : Int) + 1)); have KG4 := Lib.hid kg4; have KR4 := Lib.hid kR4; clear kT3 kg3 kR3 kg4 kR4 e30 e31)
      | (go_at_call 76; refine (L1 _ (hP1.below (Tx.newb _ _))).mono ?_; rintro e w2 ⟨rfl, hb2⟩; have s1 : w.heap.size < w1.heap.size := (by have := hb1.size; simp at this; omega); have s2 : w1.heap.size < w2.heap.size := (by have := hb2.size; simp at this; omega); have kT2 : (w2.alloc (.cells #[.int .u8 58, .string ⟨nt.toArray⟩, .bool false] 77)).heap[w1.heap.size]? = some (.cells #[.int .u8 114, .string ⟨tt.toArray⟩, .bool tg] 77 (0, 0)) := Tx.blk_later (Tx.blk_later (heap_alloc_new w1 (.cells #[.int .u8 114, .string ⟨tt.toArray⟩, .bool tg] 77)) hb2) (Tx.newb w2 _); have kg2 : (w2.alloc (.cells #[.int .u8 58, .string ⟨nt.toArray⟩, .bool false] 77)).heap[g]? = some (.cells #[.slice ta l.length tc, .int .i64 (A : Int)] 44 (0, 0)) := Tx.blk_later (Tx.blk_later (Tx.blk_later (Tx.blk_later (Tx.blk_later KG.out (Tx.newb _ _)) hb1) (Tx.newb _ _)) hb2) (Tx.newb w2 _); have kR2 : (w2.alloc (.cells #[.int .u8 58, .string ⟨nt.toArray⟩, .bool false] 77)).heap[w.heap.size]? = some (.cells Qr.zeroQ 25 (0, 0)) := Tx.blk_later (Tx.blk_later (Tx.blk_later (Tx.blk_later (heap_alloc_new w _) hb1) (Tx.newb _ _)) hb2) (Tx.newb w2 _); have hF2 : Qr.Fr g w (w2.alloc (.cells #[.int .u8 58, .string ⟨nt.toArray⟩, .bool false] 77)) := (((((Qr.Fr.refl g w).alloc _).trans (.of_below hb1)).alloc _).trans (.of_below hb2)).alloc _; have e30 : (w2.alloc (.cells #[.int .u8 58, .string ⟨nt.toArray⟩, .bool false] 77)).cell? ⟨w1.heap.size, 0, none⟩ = some (.int .u8 114) := (Tx.blk kT2).1 0; have e31 : (w2.alloc (.cells #[.int .u8 58, .string ⟨nt.toArray⟩, .bool false] 77)).cell? ⟨w1.heap.size, 1, none⟩ = some (.string ⟨tt.toArray⟩) := (Tx.blk kT2).1 1; have hPS2 := Qr.PS.of HPP.out KG.out hF2 (List.suffix_refl _) kg2 HAA.out; have KG2 := Lib.hid kg2; have KT2 := Lib.hid kT2; have KR2 := Lib.hid kR2; clear kg2 kT2 kR2)
      | (go_at_call 76; refine (L0 _ hP0).mono ?_; rintro e w1 ⟨rfl, hb1⟩; have hP1 := hP0.below hb1))
    exact ⟨rfl, rfl, hF6⟩

set_option maxHeartbeats 1600000 in
theorem years_ok (g : Nat) (l r : List Qr.Tok) (w : World) (hP : Qr.PS g l r w) (kk nk : UInt8) (tt nt : List UInt8) (tg ng : Bool) (K N : Int) (ht : Qr.lk r = ⟨kk, tt, tg⟩) (hK : (kk.toNat : Int) = K) (hn : Qr.lk1 r = ⟨nk, nt, ng⟩) (hN : (nk.toNat : Int) = N) (hk0 : kk ≠ 0) (hpass : (N == 58) = false ∨ (N = 58 ∧ ng = false)) (x y : List UInt8) (hcut : Lib.cut tt [45] = (x, y, true)) (hxs : x.length ≤ 1000) (hys : y.length ≤ 1000) (hK4 : K = 114) (m : Nat) (h1 : Qr.yearN x = some m) (n : Nat) (h2 : Qr.yearN y = some n) :
    Calls Tryz.prog 95 #[.pointer (some ⟨g, 0, none⟩)] w fun e w' => Qr.Res g l (some (.mk 4 0 [] m n [], r.tail)) w e w' := by
  have hk1 : (Qr.lk r).k ≠ 0 := by rw [ht]; exact hk0
  have htok := hP.tok hk1
  rw [ht] at htok
  simp only at htok
  have hsz : tt.length ≤ 1000 := by omega
  have hte := Qr.tail_eats hk1
  have hsl := hP.suf.length_le
  have hll := hP.len
  have L0 := fun w h => look0 (K := K) (w := w) (g := g) (l := l) ht hK h
  have L1 := fun w h => look1 (K := N) (w := w) (g := g) (l := l) hn hN h
  obtain ⟨ta, tc, kg, _, _⟩ := hP.blk
  obtain ⟨A, hA⟩ : ∃ A, l.length - r.length = A := ⟨_, rfl⟩
  rw [hA] at kg
  have HAA := Lib.hid (show (A : Int) = ((l.length - r.length : Nat) : Int) by omega)
  have hA1 : (A : Int) + 1 = ((l.length - r.tail.length : Nat) : Int) := by have := hte.2; rw [List.length_tail] at this ⊢; omega
  have hw1 := IntWalk.i64_in ((A : Int) + 1) ⟨by omega, by omega⟩
  have hgl := hP.lt
  have hP0 := hP.below (Tx.newb w (.cells Qr.zeroQ 25))
  have KG := Lib.hid kg; clear kg
  have HA1 := Lib.hid hA1; clear hA1
  have HV := Lib.hid htok.1; clear htok
  have HTE := Lib.hid hte; clear hte
  have HPP := Lib.hid hP; clear hP
  clear ht hn hK hN hk0 hA hk1
  have CUT := fun w h => cut_c tt x y true w h hsz hcut
  have Y1 := fun w h => year_some h1 hxs w h
  have Y2 := fun w h => year_some h2 hys w h
  clear hcut h1 h2 hxs hys
  subst hK4
  rcases hpass with hp | ⟨rfl, rfl⟩
  · go_enter Tryz.func95, Tryz.ntmps95
    go_wp2_with (first
      | (go_at_call 108; refine (Y2 _ hG5).mono ?_; rintro e w6 ⟨rfl, hb6⟩; have s6 := hb6.size; have kg6 := Tx.blk_later KG5.out hb6; have kR6 := Tx.blk_later KR5.out hb6; have hF6 := hF5.trans (.of_below hb6); obtain ⟨kc6, kf6, kl6⟩ := Tx.blk kR6; have z0 : w6.cell? ⟨w.heap.size, 0, none⟩ = some (.int .i64 0) := kc6 0; have z1 : w6.cell? ⟨w.heap.size, 1, none⟩ = some (.int .i64 0) := kc6 1; have z2 : w6.cell? ⟨w.heap.size, 2, none⟩ = some (.slice none 0 0) := kc6 2; have z3 : w6.cell? ⟨w.heap.size, 3, none⟩ = some (.int .i64 0) := kc6 3; have z4 : w6.cell? ⟨w.heap.size, 4, none⟩ = some (.int .i64 0) := kc6 4; have z5 : w6.cell? ⟨w.heap.size, 5, none⟩ = some (.slice none 0 0) := kc6 5; have KG6 := Lib.hid kg6; have KR6 := Lib.hid kR6; clear kg6 kR6 kc6)
      | (go_at_call 108; refine (Y1 _ hPS4.gp.g).mono ?_; rintro e w5 ⟨rfl, hb5⟩; have s5 := hb5.size; have KG5 := Lib.hid (Tx.blk_later KG4.out hb5); have KR5 := Lib.hid (Tx.blk_later KR4.out hb5); have hF5 := hF4.trans (.of_below hb5); have hG5 := (hPS4.below hb5).gp.g)
      | (go_at_call 107; refine (CUT _ hPS2.gp.g).mono ?_; rintro e w3 ⟨rfl, hb3⟩; have s3 := hb3.size; have kT3 := Tx.blk_later KT2.out hb3; have kg3 := Tx.blk_later KG2.out hb3; have kR3 := Tx.blk_later KR2.out hb3; have hF3 := hF2.trans (.of_below hb3); have e50 : w3.cell? ⟨w1.heap.size, 0, none⟩ = some (.int .u8 114) := (Tx.blk kT3).1 0; have eg : w3.cell? ⟨g, 1, none⟩ = some (.int .i64 (A : Int)) := (Tx.blk kg3).1 1; have fg : ∀ i, w3.frozen? ⟨g, i, none⟩ = false := (Tx.blk kg3).2.1; have kg4 : (w3.setCell ⟨g, 1, none⟩ (.int .i64 ((A : Int) + 1))).heap[g]? = some (.cells #[.slice ta l.length tc, .int .i64 ((A : Int) + 1)] 44 (0, 0)) := Qr.blk_set1 kg3 _; have hF4 : Qr.Fr g w (w3.setCell ⟨g, 1, none⟩ (.int .i64 ((A : Int) + 1))) := hF3.set rfl _; have hPS4 : Qr.PS g l r.tail (w3.setCell ⟨g, 1, none⟩ (.int .i64 ((A : Int) + 1))) := Qr.PS.of HPP.out KG.out hF4 HTE.out.1 kg4 HA1.out; have kR4 := Tx.blk_far (a := ⟨g, 1, none⟩) kR3 (show w.heap.size ≠ g by omega) (.int .i64 ((A : Int) + 1)); have KG4 := Lib.hid kg4; have KR4 := Lib.hid kR4; clear kT3 kg3 kR3 kg4 kR4 e30 e31)
      | (go_at_call 76; refine (L1 _ (hP1.below (Tx.newb _ _))).mono ?_; rintro e w2 ⟨rfl, hb2⟩; have s1 : w.heap.size < w1.heap.size := (by have := hb1.size; simp at this; omega); have s2 : w1.heap.size < w2.heap.size := (by have := hb2.size; simp at this; omega); have kT2 : (w2.alloc (.cells #[.int .u8 N, .string ⟨nt.toArray⟩, .bool ng] 77)).heap[w1.heap.size]? = some (.cells #[.int .u8 114, .string ⟨tt.toArray⟩, .bool tg] 77 (0, 0)) := Tx.blk_later (Tx.blk_later (heap_alloc_new w1 (.cells #[.int .u8 114, .string ⟨tt.toArray⟩, .bool tg] 77)) hb2) (Tx.newb w2 _); have kg2 : (w2.alloc (.cells #[.int .u8 N, .string ⟨nt.toArray⟩, .bool ng] 77)).heap[g]? = some (.cells #[.slice ta l.length tc, .int .i64 (A : Int)] 44 (0, 0)) := Tx.blk_later (Tx.blk_later (Tx.blk_later (Tx.blk_later (Tx.blk_later KG.out (Tx.newb _ _)) hb1) (Tx.newb _ _)) hb2) (Tx.newb w2 _); have kR2 : (w2.alloc (.cells #[.int .u8 N, .string ⟨nt.toArray⟩, .bool ng] 77)).heap[w.heap.size]? = some (.cells Qr.zeroQ 25 (0, 0)) := Tx.blk_later (Tx.blk_later (Tx.blk_later (Tx.blk_later (heap_alloc_new w _) hb1) (Tx.newb _ _)) hb2) (Tx.newb w2 _); have hF2 : Qr.Fr g w (w2.alloc (.cells #[.int .u8 N, .string ⟨nt.toArray⟩, .bool ng] 77)) := (((((Qr.Fr.refl g w).alloc _).trans (.of_below hb1)).alloc _).trans (.of_below hb2)).alloc _; have e30 : (w2.alloc (.cells #[.int .u8 N, .string ⟨nt.toArray⟩, .bool ng] 77)).cell? ⟨w1.heap.size, 0, none⟩ = some (.int .u8 114) := (Tx.blk kT2).1 0; have e31 : (w2.alloc (.cells #[.int .u8 N, .string ⟨nt.toArray⟩, .bool ng] 77)).cell? ⟨w1.heap.size, 1, none⟩ = some (.string ⟨tt.toArray⟩) := (Tx.blk kT2).1 1; have hPS2 := Qr.PS.of HPP.out KG.out hF2 (List.suffix_refl _) kg2 HAA.out; have KG2 := Lib.hid kg2; have KT2 := Lib.hid kT2; have KR2 := Lib.hid kR2; clear kg2 kT2 kR2)
      | (go_at_call 76; refine (L0 _ hP0).mono ?_; rintro e w1 ⟨rfl, hb1⟩; have hP1 := hP0.below hb1))
    refine bodyPost_ret (v := .agg #[.int .i64 4, .int .i64 0, .slice none 0 0, .int .i64 m, .int .i64 n, .slice none 0 0]) (by simp [results, Tryz.results95, go_sem, z0, z1, z2, z3, z4, z5]) rfl ⟨⟨4, 0, none, 0, 0, m, n, none, 0, 0⟩, rfl, Qr.QC.of_kids (ws := []) (ks := []) (.inl ⟨rfl, _, _, rfl⟩) (fun h => absurd rfl h) (Qr.KA.nil _ _), Qr.PS.of HPP.out KG.out (Qr.Fr.put6 hF6 (Nat.le_refl _) _ _ _ _ _ _) HTE.out.1 (Qr.far6 KG6.out (show g ≠ w.heap.size by omega) _ _ _ _ _ _) HA1.out, (Qr.Fr.put6 hF6 (Nat.le_refl _) _ _ _ _ _ _)⟩
  · go_enter Tryz.func95, Tryz.ntmps95
    go_wp2_with (first
      | (go_at_call 108; refine (Y2 _ hG5).mono ?_; rintro e w6 ⟨rfl, hb6⟩; have s6 := hb6.size; have kg6 := Tx.blk_later KG5.out hb6; have kR6 := Tx.blk_later KR5.out hb6; have hF6 := hF5.trans (.of_below hb6); obtain ⟨kc6, kf6, kl6⟩ := Tx.blk kR6; have z0 : w6.cell? ⟨w.heap.size, 0, none⟩ = some (.int .i64 0) := kc6 0; have z1 : w6.cell? ⟨w.heap.size, 1, none⟩ = some (.int .i64 0) := kc6 1; have z2 : w6.cell? ⟨w.heap.size, 2, none⟩ = some (.slice none 0 0) := kc6 2; have z3 : w6.cell? ⟨w.heap.size, 3, none⟩ = some (.int .i64 0) := kc6 3; have z4 : w6.cell? ⟨w.heap.size, 4, none⟩ = some (.int .i64 0) := kc6 4; have z5 : w6.cell? ⟨w.heap.size, 5, none⟩ = some (.slice none 0 0) := kc6 5; have KG6 := Lib.hid kg6; have KR6 := Lib.hid kR6; clear kg6 kR6 kc6)
      | (go_at_call 108; refine (Y1 _ hPS4.gp.g).mono ?_; rintro e w5 ⟨rfl, hb5⟩; have s5 := hb5.size; have KG5 := Lib.hid (Tx.blk_later KG4.out hb5); have KR5 := Lib.hid (Tx.blk_later KR4.out hb5); have hF5 := hF4.trans (.of_below hb5); have hG5 := (hPS4.below hb5).gp.g)
      | (go_at_call 107; refine (CUT _ hPS2.gp.g).mono ?_; rintro e w3 ⟨rfl, hb3⟩; have s3 := hb3.size; have kT3 := Tx.blk_later KT2.out hb3; have kg3 := Tx.blk_later KG2.out hb3; have kR3 := Tx.blk_later KR2.out hb3; have hF3 := hF2.trans (.of_below hb3); have e50 : w3.cell? ⟨w1.heap.size, 0, none⟩ = some (.int .u8 114) := (Tx.blk kT3).1 0; have eg : w3.cell? ⟨g, 1, none⟩ = some (.int .i64 (A : Int)) := (Tx.blk kg3).1 1; have fg : ∀ i, w3.frozen? ⟨g, i, none⟩ = false := (Tx.blk kg3).2.1; have kg4 : (w3.setCell ⟨g, 1, none⟩ (.int .i64 ((A : Int) + 1))).heap[g]? = some (.cells #[.slice ta l.length tc, .int .i64 ((A : Int) + 1)] 44 (0, 0)) := Qr.blk_set1 kg3 _; have hF4 : Qr.Fr g w (w3.setCell ⟨g, 1, none⟩ (.int .i64 ((A : Int) + 1))) := hF3.set rfl _; have hPS4 : Qr.PS g l r.tail (w3.setCell ⟨g, 1, none⟩ (.int .i64 ((A : Int) + 1))) := Qr.PS.of HPP.out KG.out hF4 HTE.out.1 kg4 HA1.out; have kR4 := Tx.blk_far (a := ⟨g, 1, none⟩) kR3 (show w.heap.size ≠ g by omega) (.int .i64 ((A : Int) + 1)); have KG4 := Lib.hid kg4; have KR4 := Lib.hid kR4; clear kT3 kg3 kR3 kg4 kR4 e30 e31)
      | (go_at_call 76; refine (L1 _ (hP1.below (Tx.newb _ _))).mono ?_; rintro e w2 ⟨rfl, hb2⟩; have s1 : w.heap.size < w1.heap.size := (by have := hb1.size; simp at this; omega); have s2 : w1.heap.size < w2.heap.size := (by have := hb2.size; simp at this; omega); have kT2 : (w2.alloc (.cells #[.int .u8 58, .string ⟨nt.toArray⟩, .bool false] 77)).heap[w1.heap.size]? = some (.cells #[.int .u8 114, .string ⟨tt.toArray⟩, .bool tg] 77 (0, 0)) := Tx.blk_later (Tx.blk_later (heap_alloc_new w1 (.cells #[.int .u8 114, .string ⟨tt.toArray⟩, .bool tg] 77)) hb2) (Tx.newb w2 _); have kg2 : (w2.alloc (.cells #[.int .u8 58, .string ⟨nt.toArray⟩, .bool false] 77)).heap[g]? = some (.cells #[.slice ta l.length tc, .int .i64 (A : Int)] 44 (0, 0)) := Tx.blk_later (Tx.blk_later (Tx.blk_later (Tx.blk_later (Tx.blk_later KG.out (Tx.newb _ _)) hb1) (Tx.newb _ _)) hb2) (Tx.newb w2 _); have kR2 : (w2.alloc (.cells #[.int .u8 58, .string ⟨nt.toArray⟩, .bool false] 77)).heap[w.heap.size]? = some (.cells Qr.zeroQ 25 (0, 0)) := Tx.blk_later (Tx.blk_later (Tx.blk_later (Tx.blk_later (heap_alloc_new w _) hb1) (Tx.newb _ _)) hb2) (Tx.newb w2 _); have hF2 : Qr.Fr g w (w2.alloc (.cells #[.int .u8 58, .string ⟨nt.toArray⟩, .bool false] 77)) := (((((Qr.Fr.refl g w).alloc _).trans (.of_below hb1)).alloc _).trans (.of_below hb2)).alloc _; have e30 : (w2.alloc (.cells #[.int .u8 58, .string ⟨nt.toArray⟩, .bool false] 77)).cell? ⟨w1.heap.size, 0, none⟩ = some (.int .u8 114) := (Tx.blk kT2).1 0; have e31 : (w2.alloc (.cells #[.int .u8 58, .string ⟨nt.toArray⟩, .bool false] 77)).cell? ⟨w1.heap.size, 1, none⟩ = some (.string ⟨tt.toArray⟩) := (Tx.blk kT2).1 1; have hPS2 := Qr.PS.of HPP.out KG.out hF2 (List.suffix_refl _) kg2 HAA.out; have KG2 := Lib.hid kg2; have KT2 := Lib.hid kT2; have KR2 := Lib.hid kR2; clear kg2 kT2 kR2)
      | (go_at_call 76; refine (L0 _ hP0).mono ?_; rintro e w1 ⟨rfl, hb1⟩; have hP1 := hP0.below hb1))
    refine bodyPost_ret (v := .agg #[.int .i64 4, .int .i64 0, .slice none 0 0, .int .i64 m, .int .i64 n, .slice none 0 0]) (by simp [results, Tryz.results95, go_sem, z0, z1, z2, z3, z4, z5]) rfl ⟨⟨4, 0, none, 0, 0, m, n, none, 0, 0⟩, rfl, Qr.QC.of_kids (ws := []) (ks := []) (.inl ⟨rfl, _, _, rfl⟩) (fun h => absurd rfl h) (Qr.KA.nil _ _), Qr.PS.of HPP.out KG.out (Qr.Fr.put6 hF6 (Nat.le_refl _) _ _ _ _ _ _) HTE.out.1 (Qr.far6 KG6.out (show g ≠ w.heap.size by omega) _ _ _ _ _ _) HA1.out, (Qr.Fr.put6 hF6 (Nat.le_refl _) _ _ _ _ _ _)⟩
end Go.Proofs.YtkahplbjbidemaaGreatDoor

/- Terms, ranges of years, the names of the fields: what the program's calls do. -/
namespace Go.Proofs.YtkahplbjbidemaaGreatDoor
open Go.RowKit
set_option maxRecDepth 100000

namespace Qr
theorem words_nil {t : List UInt8} : wordsB t = [] ↔ Tx.words t = [] := by unfold wordsB; exact List.map_eq_nil_iff
theorem words_n (t : List UInt8) : (wordsB t).length = (Tx.words t).length := by unfold wordsB; rw [List.length_map]
theorem word0_k {r : List Tok} {kk : UInt8} {tt : List UInt8} {tg : Bool} (ht : lk r = ⟨kk, tt, tg⟩) (h : word0 r = true) : kk = 113 ∨ kk = 114 := by
  unfold word0 at h
  rw [ht] at h
  simp only [Bool.or_eq_true, Bool.and_eq_true, beq_iff_eq] at h
  rcases h with h | h
  · exact .inl h
  · exact .inr h.1
theorem glue_eq {r : List Tok} {kk nk c : UInt8} {tt nt : List UInt8} {tg ng : Bool} (ht : lk r = ⟨kk, tt, tg⟩) (hn : lk1 r = ⟨nk, nt, ng⟩) : glue c r = (kk == 114 && nk == c && ng) := by
  unfold glue
  rw [ht, hn]
theorem k_eq {kk c : UInt8} : ((kk.toNat : Int) == (c.toNat : Int)) = (kk == c) := by
  rw [Bool.eq_iff_iff, beq_iff_eq, beq_iff_eq]
  exact ⟨fun h => UInt8.toNat_inj.1 (by omega), fun h => by rw [h]⟩
theorem no_glue {kk nk c : UInt8} {ng : Bool} (hk : kk = 113 ∨ kk = 114) (h : (kk == 114 && nk == c && ng) = false) : ((kk.toNat : Int) == 114) = false ∨ ((kk.toNat : Int) = 114 ∧ ((nk.toNat : Int) == (c.toNat : Int)) = false) ∨ ((kk.toNat : Int) = 114 ∧ (nk.toNat : Int) = (c.toNat : Int) ∧ ng = false) := by
  rcases hk with rfl | rfl
  · exact .inl rfl
  · by_cases hc : nk = c
    · subst hc
      refine .inr (.inr ⟨rfl, rfl, ?_⟩)
      simpa using h
    · exact .inr (.inl ⟨rfl, by rw [k_eq]; exact beq_eq_false_iff_ne.2 hc⟩)
end Qr

theorem term_c (g : Nat) (l r : List Qr.Tok) (w : World) (hP : Qr.PS g l r w) (hw : Qr.word0 r = true) :
    Calls Tryz.prog 96 #[.pointer (some ⟨g, 0, none⟩)] w (Qr.Res g l (Qr.pTerm true 0 r) w) := by
  obtain ⟨⟨kk, tt, tg⟩, ht⟩ : ∃ t, Qr.lk r = t := ⟨_, rfl⟩
  obtain ⟨⟨nk, nt, ng⟩, hn⟩ : ∃ n, Qr.lk1 r = n := ⟨_, rfl⟩
  have hk := Qr.word0_k ht hw
  have hk0 : kk ≠ 0 := by rcases hk with rfl | rfl <;> decide
  by_cases h58 : Qr.glue 58 r = true
  · have e : Qr.pTerm true 0 r = none := by unfold Qr.pTerm; rw [if_neg (by simp [hw]), if_pos (by simp [h58])]
    rw [e]
    exact (term_glue g l r w hP h58).mono fun e w' ⟨h1, h2⟩ => ⟨h1, .of_below h2⟩
  · have h58' : Qr.glue 58 r = false := by simpa using h58
    have hp := h58'
    rw [Qr.glue_eq ht hn] at hp
    have hpass := Qr.no_glue (c := 58) hk hp
    by_cases hx : Qr.wordsB tt = []
    · have e : Qr.pTerm true 0 r = none := by unfold Qr.pTerm; rw [if_neg (by simp [hw]), if_neg (by simp [h58']), if_pos (by rw [ht]; exact Qr.words_nil.1 hx)]
      rw [e]
      exact term_nil g l r w hP kk nk tt nt tg ng _ _ ht rfl hn rfl hk0 hpass hx
    · have hx' : ¬ Tx.words (Qr.lk r).t = [] := by rw [ht]; exact fun h => hx (Qr.words_nil.2 h)
      by_cases h42 : Qr.glue 42 r = true
      · have e : Qr.pTerm true 0 r = if 1 < (Qr.wordsB tt).length then none else some (.mk 2 0 (Qr.wordsB tt) 0 0 [], r.tail.tail) := by
          unfold Qr.pTerm
          rw [if_neg (by simp [hw]), if_neg (by simp [h58']), if_neg hx', if_pos h42, Qr.words_n, ht]
        rw [e]
        rw [Qr.glue_eq ht hn] at h42
        simp only [Bool.and_eq_true, beq_iff_eq] at h42
        obtain ⟨⟨rfl, rfl⟩, rfl⟩ := h42
        exact term_star g l r w hP 114 42 tt nt tg true _ _ ht rfl hn rfl hk0 (by decide) ⟨rfl, rfl, rfl⟩ hx
      · have h42' : Qr.glue 42 r = false := by simpa using h42
        have hq := h42'
        rw [Qr.glue_eq ht hn] at hq
        have e : Qr.pTerm true 0 r = some (.mk (if (kk.toNat : Int) = 114 ∧ (Qr.wordsB tt).length = 1 then 1 else 3) 0 (Qr.wordsB tt) 0 0 [], r.tail) := by
          unfold Qr.pTerm
          rw [if_neg (by simp [hw]), if_neg (by simp [h58']), if_neg hx', if_neg h42, ht]
          rcases hk with rfl | rfl
          · rw [if_neg (by simp), if_neg (by simp)]
          · by_cases h1 : (Tx.words tt).length = 1
            · rw [if_pos ⟨rfl, h1⟩, if_pos ⟨rfl, by rw [Qr.words_n]; exact h1⟩]
            · rw [if_neg (fun h => h1 h.2), if_neg (fun h => h1 (by rw [← Qr.words_n]; exact h.2))]
        rw [e]
        exact term_plain g l r w hP kk nk tt nt tg ng _ _ ht rfl hn rfl hk0 hpass hx (Qr.no_glue (c := 42) hk hq)

theorem years_c (g : Nat) (l r : List Qr.Tok) (w : World) (hP : Qr.PS g l r w) (hw : Qr.word0 r = true) :
    Calls Tryz.prog 95 #[.pointer (some ⟨g, 0, none⟩)] w (Qr.Res g l (Qr.pYears true r) w) := by
  obtain ⟨⟨kk, tt, tg⟩, ht⟩ : ∃ t, Qr.lk r = t := ⟨_, rfl⟩
  obtain ⟨⟨nk, nt, ng⟩, hn⟩ : ∃ n, Qr.lk1 r = n := ⟨_, rfl⟩
  have hk := Qr.word0_k ht hw
  have hk0 : kk ≠ 0 := by rcases hk with rfl | rfl <;> decide
  have htl := (hP.tok (Qr.word0_ne hw)).2
  rw [ht] at htl
  simp only at htl
  by_cases hg : nk = 58 ∧ ng = true
  · have e : Qr.pYears true r = none := by unfold Qr.pYears; rw [if_pos (by rw [hn]; simp [hg.1, hg.2])]
    rw [e]
    exact years_glue g l r w hP kk nk tt nt tg ng _ _ ht rfl hn rfl hk0 (by rw [hg.1]; rfl) hg.2
  · have hpass : ((nk.toNat : Int) == 58) = false ∨ ((nk.toNat : Int) = 58 ∧ ng = false) := by
      by_cases h1 : nk = 58
      · exact .inr ⟨by rw [h1]; rfl, by cases ng <;> simp_all⟩
      · exact .inl (by rw [show (58 : Int) = ((58 : UInt8).toNat : Int) from rfl, Qr.k_eq]; exact beq_eq_false_iff_ne.2 h1)
    have hg' : ¬ ((true && (Qr.lk1 r).k == 58 && (Qr.lk1 r).g) = true) := by
      rw [hn]
      intro h
      simp only [Bool.and_eq_true, beq_iff_eq] at h
      exact hg ⟨h.1.2, h.2⟩
    have hcut := Qr.cut_one 45 tt
    rcases hk with rfl | rfl
    · have e : Qr.pYears true r = none := by unfold Qr.pYears; rw [if_neg hg', if_pos (by rw [ht]; simp only; decide)]
      rw [e]
      exact years_bad g l r w hP 113 nk tt nt tg ng _ _ ht rfl hn rfl hk0 hpass _ _ _ (show Lib.cut tt [45] = ((Lib.cut tt [45]).1, (Lib.cut tt [45]).2.1, (Lib.cut tt [45]).2.2) from rfl) (.inl rfl)
    · have e0 : Qr.pYears true r = match Sp.cut 45 tt with
          | none => none
          | some (x, y) => match Qr.yearN x, Qr.yearN y with
            | some m, some n => some (.mk 4 0 [] m n [], r.tail)
            | _, _ => none := by unfold Qr.pYears; rw [if_neg hg', if_neg (by rw [ht]; simp), ht]; rfl
      cases hc : Sp.cut 45 tt with
      | none =>
        rw [hc] at hcut e0
        rw [e0]
        exact years_bad g l r w hP 114 nk tt nt tg ng _ _ ht rfl hn rfl hk0 hpass _ _ _ hcut (.inr ⟨rfl, rfl⟩)
      | some p =>
        obtain ⟨x, y⟩ := p
        rw [hc] at hcut e0
        have hxy := Sp.cut_len hc
        cases h1 : Qr.yearN x with
        | none =>
          rw [show Qr.pYears true r = none by rw [e0]; simp only [h1]]
          exact years_n1 g l r w hP 114 nk tt nt tg ng _ _ ht rfl hn rfl hk0 hpass x y hcut (by omega) rfl h1
        | some m =>
          cases h2 : Qr.yearN y with
          | none =>
            rw [show Qr.pYears true r = none by rw [e0]; simp only [h1, h2]]
            exact years_n2 g l r w hP 114 nk tt nt tg ng _ _ ht rfl hn rfl hk0 hpass x y hcut (by omega) (by omega) rfl m h1 h2
          | some n =>
            rw [show Qr.pYears true r = some (.mk 4 0 [] m n [], r.tail) by rw [e0]; simp only [h1, h2]]
            exact years_ok g l r w hP 114 nk tt nt tg ng _ _ ht rfl hn rfl hk0 hpass x y hcut (by omega) (by omega) rfl m h1 n h2

theorem names_c (w : World) : Calls Tryz.prog 57 #[] w fun e w' => e = .returned (.slice (some ⟨w.heap.size, 0, none⟩) 5 5) ∧ w' = w.alloc (.cells #[.string ⟨#[97, 110, 121]⟩, .string ⟨#[116, 105]⟩, .string ⟨#[97, 117]⟩, .string ⟨#[115, 117]⟩, .string ⟨#[110, 117]⟩] 9) := by
  go_enter Tryz.func57, Tryz.ntmps57
  go_wp2
  go_ret
  exact ⟨rfl, rfl⟩
end Go.Proofs.YtkahplbjbidemaaGreatDoor
