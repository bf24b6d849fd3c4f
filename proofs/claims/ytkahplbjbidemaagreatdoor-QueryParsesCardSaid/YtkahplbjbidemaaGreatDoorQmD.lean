/- The reference reads a term: what the call returns. -/
import Derived.Test.YtkahplbjbidemaaGreatDoorQmC
namespace Go.Proofs.YtkahplbjbidemaaGreatDoor
open Go.RowKit
set_option maxRecDepth 100000

set_option maxHeartbeats 3200000 in
theorem pt_kind (toks r : List Qr.Tok) (b o c : Nat) (f : Int) (w : World) (h : Qr.RT w toks b o c) (hr : r <:+ toks) (tk : UInt8) (tt : List UInt8) (tg : Bool) (ht : Qr.lk r = ⟨tk, tt, tg⟩) (h2 : tk ≠ 113) (h1 : tk ≠ 114) :
    Calls Tryz.prog 97 #[.slice (some ⟨b, o, none⟩) (toks.length + 1) c, .int .i64 ((toks.length - r.length : Nat) : Int), .int .i64 f] w (Qr.RRes toks (none) w) := by
  have hleg := h.leg hr
  rw [ht] at hleg
  obtain ⟨t0, t1, t2⟩ := h.at_ r hr
  rw [ht] at t0 t1 t2
  simp only at t0 t1 t2
  have hrl := hr.length_le
  have hlen := h.len
  have hbl := h.lt
  have hcap := h.cap
  have hmax := h.max
  have hmx : maxLen = 9223372036854775807 := rfl
  have k2 : (Qr.kR tk != 2) = true := by rw [bne_iff_ne]; exact fun e => h2 ((Qr.kR_eq hleg).1.1 e)
  have k1 : (Qr.kR tk != 1) = true := by rw [bne_iff_ne]; exact fun e => h1 ((Qr.kR_eq hleg).2.1.1 e)
  obtain ⟨X, hX⟩ : ∃ X, Qr.tx ⟨tk, tt, tg⟩ = X := ⟨_, rfl⟩
  obtain ⟨K, hK⟩ : ∃ K, Qr.kR tk = K := ⟨_, rfl⟩
  rw [hX] at t1
  rw [hK] at t0 k1 k2
  clear hX hK ht h1 h2
  obtain ⟨A, hA⟩ : ∃ A, toks.length - r.length = A := ⟨_, rfl⟩
  rw [hA] at t0 t1 t2 ⊢
  have HA := Lib.hid hA
  have hA1 : A ≤ toks.length := by omega
  have HH := Lib.hid h; clear h
  have HLG := Lib.hid hleg; clear hleg
  obtain ⟨W, hW⟩ : ∃ W, (w.alloc (.cells Qr.zeroP 52)).alloc (.cells #[.int .i64 K, .string ⟨X.toArray⟩, .bool tg] 55) = W := ⟨_, rfl⟩
  have hB : Below w.heap.size w W := by rw [← hW]; exact (Tx.newb _ _).alloc (Tx.newb w _).size _
  have KR : Hid (W.heap[w.heap.size]? = some (.cells Qr.zeroP 52 (0, 0))) := Lib.hid (by rw [← hW]; exact Tx.blk_later (heap_alloc_new w _) (Tx.newb _ _))
  have KT : Hid (W.heap[w.heap.size + 1]? = some (.cells #[.int .i64 K, .string ⟨X.toArray⟩, .bool tg] 55 (0, 0))) := Lib.hid (by rw [← hW]; have := heap_alloc_new (w.alloc (.cells Qr.zeroP 52)) (.cells #[.int .i64 K, .string ⟨X.toArray⟩, .bool tg] 55); rwa [World.size_alloc] at this)
  have x0 : W.cell? ⟨w.heap.size + 1, 0, none⟩ = some (.int .i64 K) := (Tx.blk KT.out).1 0
  have x1 : W.cell? ⟨w.heap.size + 1, 1, none⟩ = some (.string ⟨X.toArray⟩) := (Tx.blk KT.out).1 1
  have x2 : W.cell? ⟨w.heap.size + 1, 2, none⟩ = some (.bool tg) := (Tx.blk KT.out).1 2
  have hs : W.heap.size = w.heap.size + 2 := by rw [← hW]; simp
  have z0 : W.cell? ⟨w.heap.size, 0, none⟩ = some (.int .i64 0) := (Tx.blk KR.out).1 0
  have z1 : W.cell? ⟨w.heap.size, 1, none⟩ = some (.int .i64 0) := (Tx.blk KR.out).1 1
  have z2 : W.cell? ⟨w.heap.size, 2, none⟩ = some (.slice none 0 0) := (Tx.blk KR.out).1 2
  have z3 : W.cell? ⟨w.heap.size, 3, none⟩ = some (.int .i64 0) := (Tx.blk KR.out).1 3
  have z4 : W.cell? ⟨w.heap.size, 4, none⟩ = some (.int .i64 0) := (Tx.blk KR.out).1 4
  have z5 : W.cell? ⟨w.heap.size, 5, none⟩ = some (.slice none 0 0) := (Tx.blk KR.out).1 5
  have z6 : W.cell? ⟨w.heap.size, 6, none⟩ = some (.int .i64 0) := (Tx.blk KR.out).1 6
  have z7 : W.cell? ⟨w.heap.size, 7, none⟩ = some (.bool false) := (Tx.blk KR.out).1 7
  have zf : ∀ i, W.frozen? ⟨w.heap.size, i, none⟩ = false := (Tx.blk KR.out).2.1
  go_enter Tryz.func97, Tryz.ntmps97
  go_wp2
  refine bodyPost_ret (v := .agg #[.int .i64 0, .int .i64 0, .slice none 0 0, .int .i64 0, .int .i64 0, .slice none 0 0, .int .i64 0, .bool false]) (by simp [results, Tryz.results97, go_sem, z0, z1, z2, z3, z4, z5, z6, z7]) rfl (Qr.RRes.mk_none (Qr.put8 hB (Nat.le_refl _) _ _ _ _ _ _ _ _))

set_option maxHeartbeats 3200000 in
theorem pt_op (toks r : List Qr.Tok) (b o c : Nat) (f : Int) (w : World) (h : Qr.RT w toks b o c) (hr : r <:+ toks) (tk : UInt8) (tt : List UInt8) (tg : Bool) (ht : Qr.lk r = ⟨tk, tt, tg⟩) (h1 : tk = 114) (ha : Qr.anyOp ⟨tk, tt, tg⟩ = true) :
    Calls Tryz.prog 97 #[.slice (some ⟨b, o, none⟩) (toks.length + 1) c, .int .i64 ((toks.length - r.length : Nat) : Int), .int .i64 f] w (Qr.RRes toks (none) w) := by
  have hleg := h.leg hr
  rw [ht] at hleg
  obtain ⟨t0, t1, t2⟩ := h.at_ r hr
  rw [ht] at t0 t1 t2
  simp only at t0 t1 t2
  have hrl := hr.length_le
  have hlen := h.len
  have hbl := h.lt
  have hcap := h.cap
  have hmax := h.max
  have hmx : maxLen = 9223372036854775807 := rfl
  subst h1
  have hop := Lib.hid (fun w => r21_anyOp_c ⟨114, tt, tg⟩ hleg w)
  rw [ha] at hop
  rw [show Qr.tx ⟨114, tt, tg⟩ = tt from rfl] at t1 hop
  rw [show Qr.kR 114 = 1 from rfl] at t0 hop
  clear ht ha
  obtain ⟨A, hA⟩ : ∃ A, toks.length - r.length = A := ⟨_, rfl⟩
  rw [hA] at t0 t1 t2 ⊢
  have HA := Lib.hid hA
  have hA1 : A ≤ toks.length := by omega
  have HH := Lib.hid h; clear h
  have HLG := Lib.hid hleg; clear hleg
  obtain ⟨W, hW⟩ : ∃ W, (w.alloc (.cells Qr.zeroP 52)).alloc (.cells #[.int .i64 1, .string ⟨tt.toArray⟩, .bool tg] 55) = W := ⟨_, rfl⟩
  have hB : Below w.heap.size w W := by rw [← hW]; exact (Tx.newb _ _).alloc (Tx.newb w _).size _
  have KR : Hid (W.heap[w.heap.size]? = some (.cells Qr.zeroP 52 (0, 0))) := Lib.hid (by rw [← hW]; exact Tx.blk_later (heap_alloc_new w _) (Tx.newb _ _))
  have KT : Hid (W.heap[w.heap.size + 1]? = some (.cells #[.int .i64 1, .string ⟨tt.toArray⟩, .bool tg] 55 (0, 0))) := Lib.hid (by rw [← hW]; have := heap_alloc_new (w.alloc (.cells Qr.zeroP 52)) (.cells #[.int .i64 1, .string ⟨tt.toArray⟩, .bool tg] 55); rwa [World.size_alloc] at this)
  have x0 : W.cell? ⟨w.heap.size + 1, 0, none⟩ = some (.int .i64 1) := (Tx.blk KT.out).1 0
  have x1 : W.cell? ⟨w.heap.size + 1, 1, none⟩ = some (.string ⟨tt.toArray⟩) := (Tx.blk KT.out).1 1
  have x2 : W.cell? ⟨w.heap.size + 1, 2, none⟩ = some (.bool tg) := (Tx.blk KT.out).1 2
  have hs : W.heap.size = w.heap.size + 2 := by rw [← hW]; simp
  go_enter Tryz.func97, Tryz.ntmps97
  go_wp2_with (go_at_call 90; refine (hop.out _).mono ?_; rintro e w2 ⟨rfl, hb2⟩; replace KR := Lib.hid (Tx.blk_later KR.out hb2); have z0 : w2.cell? ⟨w.heap.size, 0, none⟩ = some (.int .i64 0) := (Tx.blk KR.out).1 0; have z1 : w2.cell? ⟨w.heap.size, 1, none⟩ = some (.int .i64 0) := (Tx.blk KR.out).1 1; have z2 : w2.cell? ⟨w.heap.size, 2, none⟩ = some (.slice none 0 0) := (Tx.blk KR.out).1 2; have z3 : w2.cell? ⟨w.heap.size, 3, none⟩ = some (.int .i64 0) := (Tx.blk KR.out).1 3; have z4 : w2.cell? ⟨w.heap.size, 4, none⟩ = some (.int .i64 0) := (Tx.blk KR.out).1 4; have z5 : w2.cell? ⟨w.heap.size, 5, none⟩ = some (.slice none 0 0) := (Tx.blk KR.out).1 5; have z6 : w2.cell? ⟨w.heap.size, 6, none⟩ = some (.int .i64 0) := (Tx.blk KR.out).1 6; have z7 : w2.cell? ⟨w.heap.size, 7, none⟩ = some (.bool false) := (Tx.blk KR.out).1 7; have zf : ∀ i, w2.frozen? ⟨w.heap.size, i, none⟩ = false := (Tx.blk KR.out).2.1)
  refine bodyPost_ret (v := .agg #[.int .i64 0, .int .i64 0, .slice none 0 0, .int .i64 0, .int .i64 0, .slice none 0 0, .int .i64 0, .bool false]) (by simp [results, Tryz.results97, go_sem, z0, z1, z2, z3, z4, z5, z6, z7]) rfl (Qr.RRes.mk_none (Qr.put8 (hB.trans (hb2.mono hB.size)) (Nat.le_refl _) _ _ _ _ _ _ _ _))

set_option maxHeartbeats 3200000 in
theorem pt_nil_q (toks r : List Qr.Tok) (b o c : Nat) (f : Int) (w : World) (h : Qr.RT w toks b o c) (hr : r <:+ toks) (tk : UInt8) (tt : List UInt8) (tg : Bool) (ht : Qr.lk r = ⟨tk, tt, tg⟩) (h1 : tk = 113) (hx : Qr.wordsB tt = []) :
    Calls Tryz.prog 97 #[.slice (some ⟨b, o, none⟩) (toks.length + 1) c, .int .i64 ((toks.length - r.length : Nat) : Int), .int .i64 f] w (Qr.RRes toks (none) w) := by
  have hleg := h.leg hr
  rw [ht] at hleg
  obtain ⟨t0, t1, t2⟩ := h.at_ r hr
  rw [ht] at t0 t1 t2
  simp only at t0 t1 t2
  have hrl := hr.length_le
  have hlen := h.len
  have hbl := h.lt
  have hcap := h.cap
  have hmax := h.max
  have hmx : maxLen = 9223372036854775807 := rfl
  subst h1
  rw [show Qr.tx ⟨113, tt, tg⟩ = tt from rfl] at t1
  rw [show Qr.kR 113 = 2 from rfl] at t0
  have htok : Tx.valid tt = true ∧ tt.length ≤ 1000 := by
    have := h.ok (Qr.lk r) (hr.subset (Qr.lk_mem (by rw [ht]; simp)))
    rw [ht] at this
    exact this
  have hsz : (⟨tt.toArray⟩ : ByteArray).size ≤ 1000000 := by rw [Tx.size_mk]; omega
  obtain ⟨xs, hxs⟩ : ∃ xs, Qr.wordsB tt = xs := ⟨_, rfl⟩
  have HXS := Lib.hid hxs
  have hxl : xs.length ≤ 2000 := by
    rw [← hxs, Qr.wordsB_len]
    have := Tx.words_len htok.1
    omega
  rw [hx] at hxs
  subst hxs
  clear ht hx htok
  obtain ⟨A, hA⟩ : ∃ A, toks.length - r.length = A := ⟨_, rfl⟩
  rw [hA] at t0 t1 t2 ⊢
  have HA := Lib.hid hA
  have hA1 : A ≤ toks.length := by omega
  have HH := Lib.hid h; clear h
  have HLG := Lib.hid hleg; clear hleg
  obtain ⟨W, hW⟩ : ∃ W, (w.alloc (.cells Qr.zeroP 52)).alloc (.cells #[.int .i64 2, .string ⟨tt.toArray⟩, .bool tg] 55) = W := ⟨_, rfl⟩
  have hB : Below w.heap.size w W := by rw [← hW]; exact (Tx.newb _ _).alloc (Tx.newb w _).size _
  have KR : Hid (W.heap[w.heap.size]? = some (.cells Qr.zeroP 52 (0, 0))) := Lib.hid (by rw [← hW]; exact Tx.blk_later (heap_alloc_new w _) (Tx.newb _ _))
  have KT : Hid (W.heap[w.heap.size + 1]? = some (.cells #[.int .i64 2, .string ⟨tt.toArray⟩, .bool tg] 55 (0, 0))) := Lib.hid (by rw [← hW]; have := heap_alloc_new (w.alloc (.cells Qr.zeroP 52)) (.cells #[.int .i64 2, .string ⟨tt.toArray⟩, .bool tg] 55); rwa [World.size_alloc] at this)
  have x0 : W.cell? ⟨w.heap.size + 1, 0, none⟩ = some (.int .i64 2) := (Tx.blk KT.out).1 0
  have x1 : W.cell? ⟨w.heap.size + 1, 1, none⟩ = some (.string ⟨tt.toArray⟩) := (Tx.blk KT.out).1 1
  have x2 : W.cell? ⟨w.heap.size + 1, 2, none⟩ = some (.bool tg) := (Tx.blk KT.out).1 2
  have hs : W.heap.size = w.heap.size + 2 := by rw [← hW]; simp
  go_enter Tryz.func97, Tryz.ntmps97
  go_wp2_with (first
    | (go_at_call 106; refine (r01_Words_c ⟨tt.toArray⟩ _ (by omega)).mono ?_; rintro e w3 ⟨v, rfl, hown, hb3⟩; obtain ⟨sa, sc, rfl, hSL, hLo⟩ := Qr.own_words2 (l := tt) hown; clear hown; rw [HXS.out] at hSL hLo ⊢; have s3 := hb3.size; replace KR := Lib.hid (Tx.blk_later KR.out hb3); replace KT := Lib.hid (Tx.blk_later KT.out hb3); have y0 : w3.cell? ⟨w.heap.size + 1, 0, none⟩ = some (.int .i64 2) := (Tx.blk KT.out).1 0; have HSL := Lib.hid hSL; have HLO := Lib.hid hLo; clear hSL hLo; have z0 : w3.cell? ⟨w.heap.size, 0, none⟩ = some (.int .i64 0) := (Tx.blk KR.out).1 0; have z1 : w3.cell? ⟨w.heap.size, 1, none⟩ = some (.int .i64 0) := (Tx.blk KR.out).1 1; have z2 : w3.cell? ⟨w.heap.size, 2, none⟩ = some (.slice none 0 0) := (Tx.blk KR.out).1 2; have z3 : w3.cell? ⟨w.heap.size, 3, none⟩ = some (.int .i64 0) := (Tx.blk KR.out).1 3; have z4 : w3.cell? ⟨w.heap.size, 4, none⟩ = some (.int .i64 0) := (Tx.blk KR.out).1 4; have z5 : w3.cell? ⟨w.heap.size, 5, none⟩ = some (.slice none 0 0) := (Tx.blk KR.out).1 5; have z6 : w3.cell? ⟨w.heap.size, 6, none⟩ = some (.int .i64 0) := (Tx.blk KR.out).1 6; have z7 : w3.cell? ⟨w.heap.size, 7, none⟩ = some (.bool false) := (Tx.blk KR.out).1 7; have zf : ∀ i, w3.frozen? ⟨w.heap.size, i, none⟩ = false := (Tx.blk KR.out).2.1))
  refine bodyPost_ret (v := .agg #[.int .i64 0, .int .i64 0, .slice none 0 0, .int .i64 0, .int .i64 0, .slice none 0 0, .int .i64 0, .bool false]) (by simp [results, Tryz.results97, go_sem, z0, z1, z2, z3, z4, z5, z6, z7]) rfl (Qr.RRes.mk_none (Qr.put8 (hB.trans (hb3.mono hB.size)) (Nat.le_refl _) _ _ _ _ _ _ _ _))

set_option maxHeartbeats 3200000 in
theorem pt_nil_r (toks r : List Qr.Tok) (b o c : Nat) (f : Int) (w : World) (h : Qr.RT w toks b o c) (hr : r <:+ toks) (tk : UInt8) (tt : List UInt8) (tg : Bool) (ht : Qr.lk r = ⟨tk, tt, tg⟩) (h1 : tk = 114) (ha : Qr.anyOp ⟨tk, tt, tg⟩ = false) (hx : Qr.wordsB tt = []) :
    Calls Tryz.prog 97 #[.slice (some ⟨b, o, none⟩) (toks.length + 1) c, .int .i64 ((toks.length - r.length : Nat) : Int), .int .i64 f] w (Qr.RRes toks (none) w) := by
  have hleg := h.leg hr
  rw [ht] at hleg
  obtain ⟨t0, t1, t2⟩ := h.at_ r hr
  rw [ht] at t0 t1 t2
  simp only at t0 t1 t2
  have hrl := hr.length_le
  have hlen := h.len
  have hbl := h.lt
  have hcap := h.cap
  have hmax := h.max
  have hmx : maxLen = 9223372036854775807 := rfl
  subst h1
  rw [show Qr.tx ⟨114, tt, tg⟩ = tt from rfl] at t1
  rw [show Qr.kR 114 = 1 from rfl] at t0
  have htok : Tx.valid tt = true ∧ tt.length ≤ 1000 := by
    have := h.ok (Qr.lk r) (hr.subset (Qr.lk_mem (by rw [ht]; simp)))
    rw [ht] at this
    exact this
  have hsz : (⟨tt.toArray⟩ : ByteArray).size ≤ 1000000 := by rw [Tx.size_mk]; omega
  obtain ⟨xs, hxs⟩ : ∃ xs, Qr.wordsB tt = xs := ⟨_, rfl⟩
  have HXS := Lib.hid hxs
  have hxl : xs.length ≤ 2000 := by
    rw [← hxs, Qr.wordsB_len]
    have := Tx.words_len htok.1
    omega
  have hop := Lib.hid (fun w => r21_anyOp_c ⟨114, tt, tg⟩ hleg w)
  rw [ha] at hop
  rw [show Qr.tx ⟨114, tt, tg⟩ = tt from rfl, show Qr.kR 114 = 1 from rfl] at hop
  rw [hx] at hxs
  subst hxs
  clear ht hx htok ha
  obtain ⟨A, hA⟩ : ∃ A, toks.length - r.length = A := ⟨_, rfl⟩
  rw [hA] at t0 t1 t2 ⊢
  have HA := Lib.hid hA
  have hA1 : A ≤ toks.length := by omega
  have HH := Lib.hid h; clear h
  have HLG := Lib.hid hleg; clear hleg
  obtain ⟨W, hW⟩ : ∃ W, (w.alloc (.cells Qr.zeroP 52)).alloc (.cells #[.int .i64 1, .string ⟨tt.toArray⟩, .bool tg] 55) = W := ⟨_, rfl⟩
  have hB : Below w.heap.size w W := by rw [← hW]; exact (Tx.newb _ _).alloc (Tx.newb w _).size _
  have KR : Hid (W.heap[w.heap.size]? = some (.cells Qr.zeroP 52 (0, 0))) := Lib.hid (by rw [← hW]; exact Tx.blk_later (heap_alloc_new w _) (Tx.newb _ _))
  have KT : Hid (W.heap[w.heap.size + 1]? = some (.cells #[.int .i64 1, .string ⟨tt.toArray⟩, .bool tg] 55 (0, 0))) := Lib.hid (by rw [← hW]; have := heap_alloc_new (w.alloc (.cells Qr.zeroP 52)) (.cells #[.int .i64 1, .string ⟨tt.toArray⟩, .bool tg] 55); rwa [World.size_alloc] at this)
  have x0 : W.cell? ⟨w.heap.size + 1, 0, none⟩ = some (.int .i64 1) := (Tx.blk KT.out).1 0
  have x1 : W.cell? ⟨w.heap.size + 1, 1, none⟩ = some (.string ⟨tt.toArray⟩) := (Tx.blk KT.out).1 1
  have x2 : W.cell? ⟨w.heap.size + 1, 2, none⟩ = some (.bool tg) := (Tx.blk KT.out).1 2
  have hs : W.heap.size = w.heap.size + 2 := by rw [← hW]; simp
  go_enter Tryz.func97, Tryz.ntmps97
  go_wp2_with (first
    | (go_at_call 106; refine (r01_Words_c ⟨tt.toArray⟩ _ (by omega)).mono ?_; rintro e w3 ⟨v, rfl, hown, hb3⟩; obtain ⟨sa, sc, rfl, hSL, hLo⟩ := Qr.own_words2 (l := tt) hown; clear hown; rw [HXS.out] at hSL hLo ⊢; have s3 := hb3.size; replace KR := Lib.hid (Tx.blk_later KR.out hb3); replace KT := Lib.hid (Tx.blk_later KT.out hb3); have y0 : w3.cell? ⟨w.heap.size + 1, 0, none⟩ = some (.int .i64 1) := (Tx.blk KT.out).1 0; have HSL := Lib.hid hSL; have HLO := Lib.hid hLo; clear hSL hLo; have z0 : w3.cell? ⟨w.heap.size, 0, none⟩ = some (.int .i64 0) := (Tx.blk KR.out).1 0; have z1 : w3.cell? ⟨w.heap.size, 1, none⟩ = some (.int .i64 0) := (Tx.blk KR.out).1 1; have z2 : w3.cell? ⟨w.heap.size, 2, none⟩ = some (.slice none 0 0) := (Tx.blk KR.out).1 2; have z3 : w3.cell? ⟨w.heap.size, 3, none⟩ = some (.int .i64 0) := (Tx.blk KR.out).1 3; have z4 : w3.cell? ⟨w.heap.size, 4, none⟩ = some (.int .i64 0) := (Tx.blk KR.out).1 4; have z5 : w3.cell? ⟨w.heap.size, 5, none⟩ = some (.slice none 0 0) := (Tx.blk KR.out).1 5; have z6 : w3.cell? ⟨w.heap.size, 6, none⟩ = some (.int .i64 0) := (Tx.blk KR.out).1 6; have z7 : w3.cell? ⟨w.heap.size, 7, none⟩ = some (.bool false) := (Tx.blk KR.out).1 7; have zf : ∀ i, w3.frozen? ⟨w.heap.size, i, none⟩ = false := (Tx.blk KR.out).2.1)
    | (go_at_call 90; refine (hop.out _).mono ?_; rintro e w2 ⟨rfl, hb2⟩; replace KR := Lib.hid (Tx.blk_later KR.out hb2); replace KT := Lib.hid (Tx.blk_later KT.out hb2); have s2 := hb2.size; have e1 : w2.cell? ⟨w.heap.size + 1, 1, none⟩ = some (.string ⟨tt.toArray⟩) := (Tx.blk KT.out).1 1))
  refine bodyPost_ret (v := .agg #[.int .i64 0, .int .i64 0, .slice none 0 0, .int .i64 0, .int .i64 0, .slice none 0 0, .int .i64 0, .bool false]) (by simp [results, Tryz.results97, go_sem, z0, z1, z2, z3, z4, z5, z6, z7]) rfl (Qr.RRes.mk_none (Qr.put8 (hB.trans (hb2.mono hB.size) |> fun h9 => h9.trans (hb3.mono h9.size)) (Nat.le_refl _) _ _ _ _ _ _ _ _))

end Go.Proofs.YtkahplbjbidemaaGreatDoor
