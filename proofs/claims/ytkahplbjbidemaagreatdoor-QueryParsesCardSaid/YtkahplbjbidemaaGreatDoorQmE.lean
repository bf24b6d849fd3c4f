/- The reference reads a term that has words: what the call returns. -/
import Derived.Test.YtkahplbjbidemaaGreatDoorQmD
namespace Go.Proofs.YtkahplbjbidemaaGreatDoor
open Go.RowKit
set_option maxRecDepth 100000

set_option maxHeartbeats 3200000 in
theorem pt_phrase_q (toks r : List Qr.Tok) (b o c : Nat) (f : Int) (w : World) (h : Qr.RT w toks b o c) (hr : r <:+ toks) (tk : UInt8) (tt : List UInt8) (tg : Bool) (ht : Qr.lk r = ⟨tk, tt, tg⟩) (h1 : tk = 113) (hx : Qr.wordsB tt ≠ []) :
    Calls Tryz.prog 97 #[.slice (some ⟨b, o, none⟩) (toks.length + 1) c, .int .i64 ((toks.length - r.length : Nat) : Int), .int .i64 f] w (Qr.RRes toks (some (.mk 3 f (Qr.wordsB tt) 0 0 [], r.tail)) w) := by
  have hleg := h.leg hr
  rw [ht] at hleg
  obtain ⟨t0, t1, t2⟩ := h.at_ r hr
  rw [ht] at t0 t1 t2
  simp only at t0 t1 t2
  have hrl := hr.length_le
  have hlen := h.len
  have hbl := h.lt
  have hcap := h.cap
  have hmax := h.max
  have hmx : maxLen = 9223372036854775807 := rfl
  have hta := Qr.tail_at hr (by rw [ht, h1]; simp)
  subst h1
  rw [show Qr.tx ⟨113, tt, tg⟩ = tt from rfl] at t1
  rw [show Qr.kR 113 = 2 from rfl] at t0
  have htok : Tx.valid tt = true ∧ tt.length ≤ 1000 := by
    have := h.ok (Qr.lk r) (hr.subset (Qr.lk_mem (by rw [ht]; simp)))
    rw [ht] at this
    exact this
  have hsz : (⟨tt.toArray⟩ : ByteArray).size ≤ 1000000 := by rw [Tx.size_mk]; omega
  obtain ⟨xs, hxs⟩ : ∃ xs, Qr.wordsB tt = xs := ⟨_, rfl⟩
  have HXS := Lib.hid hxs
  have hxl : xs.length ≤ 2000 := by
    rw [← hxs, Qr.wordsB_len]
    have := Tx.words_len htok.1
    omega
  rw [hxs]
  have hxne : ¬ (xs.length : Int) = 0 := by
    rw [hxs] at hx
    intro h9
    exact hx (List.eq_nil_of_length_eq_zero (by omega))
  have HTA := Lib.hid hta
  clear ht hx htok hxs hta
  obtain ⟨A, hA⟩ : ∃ A, toks.length - r.length = A := ⟨_, rfl⟩
  rw [hA] at t0 t1 t2 ⊢
  have HA := Lib.hid hA
  have hA1 : A ≤ toks.length := by omega
  have HH := Lib.hid h; clear h
  have HLG := Lib.hid hleg; clear hleg
  obtain ⟨W, hW⟩ : ∃ W, (w.alloc (.cells Qr.zeroP 52)).alloc (.cells #[.int .i64 2, .string ⟨tt.toArray⟩, .bool tg] 55) = W := ⟨_, rfl⟩
  have hB : Below w.heap.size w W := by rw [← hW]; exact (Tx.newb _ _).alloc (Tx.newb w _).size _
  have KR : Hid (W.heap[w.heap.size]? = some (.cells Qr.zeroP 52 (0, 0))) := Lib.hid (by rw [← hW]; exact Tx.blk_later (heap_alloc_new w _) (Tx.newb _ _))
  have KT : Hid (W.heap[w.heap.size + 1]? = some (.cells #[.int .i64 2, .string ⟨tt.toArray⟩, .bool tg] 55 (0, 0))) := Lib.hid (by rw [← hW]; have := heap_alloc_new (w.alloc (.cells Qr.zeroP 52)) (.cells #[.int .i64 2, .string ⟨tt.toArray⟩, .bool tg] 55); rwa [World.size_alloc] at this)
  have x0 : W.cell? ⟨w.heap.size + 1, 0, none⟩ = some (.int .i64 2) := (Tx.blk KT.out).1 0
  have x1 : W.cell? ⟨w.heap.size + 1, 1, none⟩ = some (.string ⟨tt.toArray⟩) := (Tx.blk KT.out).1 1
  have x2 : W.cell? ⟨w.heap.size + 1, 2, none⟩ = some (.bool tg) := (Tx.blk KT.out).1 2
  have hs : W.heap.size = w.heap.size + 2 := by rw [← hW]; simp
  go_enter Tryz.func97, Tryz.ntmps97
  go_wp2_with (go_at_call 106; refine (r01_Words_c ⟨tt.toArray⟩ _ (by omega)).mono ?_; rintro e w3 ⟨v, rfl, hown, hb3⟩; obtain ⟨sa, sc, rfl, hSL, hLo⟩ := Qr.own_words2 (l := tt) hown; clear hown; rw [HXS.out] at hSL hLo ⊢; have s3 := hb3.size; replace KR := Lib.hid (Tx.blk_later KR.out hb3); replace KT := Lib.hid (Tx.blk_later KT.out hb3); have y0 : w3.cell? ⟨w.heap.size + 1, 0, none⟩ = some (.int .i64 2) := (Tx.blk KT.out).1 0; have HSL := Lib.hid hSL; have HLO := Lib.hid hLo; clear hSL hLo; have kr3 := Tx.blk_later KR.out (Tx.newb w3 (.cells #[.int .i64 3, .int .i64 f, .slice sa xs.length sc, .int .i64 0, .int .i64 0, .slice none 0 0] 25)); replace KR := Lib.hid kr3; clear kr3; have kt3 := Tx.blk_later KT.out (Tx.newb w3 (.cells #[.int .i64 3, .int .i64 f, .slice sa xs.length sc, .int .i64 0, .int .i64 0, .slice none 0 0] 25)); have yy0 : (w3.alloc (.cells #[.int .i64 3, .int .i64 f, .slice sa xs.length sc, .int .i64 0, .int .i64 0, .slice none 0 0] 25)).cell? ⟨w.heap.size + 1, 0, none⟩ = some (.int .i64 2) := (Tx.blk kt3).1 0; clear kt3; have z0 : (w3.alloc (.cells #[.int .i64 3, .int .i64 f, .slice sa xs.length sc, .int .i64 0, .int .i64 0, .slice none 0 0] 25)).cell? ⟨w.heap.size, 0, none⟩ = some (.int .i64 0) := (Tx.blk KR.out).1 0; have z1 : (w3.alloc (.cells #[.int .i64 3, .int .i64 f, .slice sa xs.length sc, .int .i64 0, .int .i64 0, .slice none 0 0] 25)).cell? ⟨w.heap.size, 1, none⟩ = some (.int .i64 0) := (Tx.blk KR.out).1 1; have z2 : (w3.alloc (.cells #[.int .i64 3, .int .i64 f, .slice sa xs.length sc, .int .i64 0, .int .i64 0, .slice none 0 0] 25)).cell? ⟨w.heap.size, 2, none⟩ = some (.slice none 0 0) := (Tx.blk KR.out).1 2; have z3 : (w3.alloc (.cells #[.int .i64 3, .int .i64 f, .slice sa xs.length sc, .int .i64 0, .int .i64 0, .slice none 0 0] 25)).cell? ⟨w.heap.size, 3, none⟩ = some (.int .i64 0) := (Tx.blk KR.out).1 3; have z4 : (w3.alloc (.cells #[.int .i64 3, .int .i64 f, .slice sa xs.length sc, .int .i64 0, .int .i64 0, .slice none 0 0] 25)).cell? ⟨w.heap.size, 4, none⟩ = some (.int .i64 0) := (Tx.blk KR.out).1 4; have z5 : (w3.alloc (.cells #[.int .i64 3, .int .i64 f, .slice sa xs.length sc, .int .i64 0, .int .i64 0, .slice none 0 0] 25)).cell? ⟨w.heap.size, 5, none⟩ = some (.slice none 0 0) := (Tx.blk KR.out).1 5; have z6 : (w3.alloc (.cells #[.int .i64 3, .int .i64 f, .slice sa xs.length sc, .int .i64 0, .int .i64 0, .slice none 0 0] 25)).cell? ⟨w.heap.size, 6, none⟩ = some (.int .i64 0) := (Tx.blk KR.out).1 6; have z7 : (w3.alloc (.cells #[.int .i64 3, .int .i64 f, .slice sa xs.length sc, .int .i64 0, .int .i64 0, .slice none 0 0] 25)).cell? ⟨w.heap.size, 7, none⟩ = some (.bool false) := (Tx.blk KR.out).1 7; have zf : ∀ i, (w3.alloc (.cells #[.int .i64 3, .int .i64 f, .slice sa xs.length sc, .int .i64 0, .int .i64 0, .slice none 0 0] 25)).frozen? ⟨w.heap.size, i, none⟩ = false := (Tx.blk KR.out).2.1)
  have hP := Qr.put8 ((hB.trans (hb3.mono hB.size)).alloc (Nat.le_trans hB.size s3) (.cells #[.int .i64 3, .int .i64 f, .slice sa xs.length sc, .int .i64 0, .int .i64 0, .slice none 0 0] 25)) (Nat.le_refl _) (.int .i64 3) (.int .i64 f) (.slice sa xs.length sc) (.int .i64 0) (.int .i64 0) (.slice none 0 0) (.int .i64 ((A : Int) + 1)) (.bool true)
  refine bodyPost_ret (v := .agg #[.int .i64 3, .int .i64 f, .slice sa xs.length sc, .int .i64 0, .int .i64 0, .slice none 0 0, .int .i64 ((A : Int) + 1), .bool true]) (by simp [results, Tryz.results97, go_sem, z0, z1, z2, z3, z4, z5, z6, z7]) rfl (Qr.RRes.mk_some (by rw [HTA.out, HA.out]; omega) (Qr.QC.of_kids (ws := xs) (ks := []) (Qr.Kp.sl2 HSL.out (fun h1 ad l c2 h9 => Nat.le_trans (by omega) (HLO.out h1 ad l c2 h9)) ((Qr.Kp.below (Tx.newb w3 _)).put8 (M := w.heap.size + 1) (by omega) _ _ _ _ _ _ _ _)) (fun h1 ad l c2 h9 => Nat.le_trans (by omega) (HLO.out h1 ad l c2 h9)) (Qr.KA.nil _ _)) hP)

set_option maxHeartbeats 3200000 in
theorem pt_s1 (toks r : List Qr.Tok) (b o c : Nat) (f : Int) (w : World) (h : Qr.RT w toks b o c) (hr : r <:+ toks) (tk : UInt8) (tt : List UInt8) (tg : Bool) (ht : Qr.lk r = ⟨tk, tt, tg⟩) (h1 : tk = 114) (ha : Qr.anyOp ⟨tk, tt, tg⟩ = false) (nk : UInt8) (nt : List UInt8) (ng : Bool) (hn : Qr.lk r.tail = ⟨nk, nt, ng⟩) (hk : nk = 42) (hg : ng = true) (hl : (Qr.wordsB tt).length = 1) :
    Calls Tryz.prog 97 #[.slice (some ⟨b, o, none⟩) (toks.length + 1) c, .int .i64 ((toks.length - r.length : Nat) : Int), .int .i64 f] w (Qr.RRes toks (some (.mk 2 f (Qr.wordsB tt) 0 0 [], r.tail.tail)) w) := by
  have hleg := h.leg hr
  rw [ht] at hleg
  obtain ⟨t0, t1, t2⟩ := h.at_ r hr
  rw [ht] at t0 t1 t2
  simp only at t0 t1 t2
  have hrl := hr.length_le
  have hlen := h.len
  have hbl := h.lt
  have hcap := h.cap
  have hmax := h.max
  have hmx : maxLen = 9223372036854775807 := rfl
  have hta := Qr.tail_at hr (by rw [ht, h1]; simp)
  have hlegn := h.leg (Qr.tail_suf hr)
  rw [hn] at hlegn
  obtain ⟨n0, n1, n2⟩ := h.at_ r.tail (Qr.tail_suf hr)
  rw [hn, hta] at n0 n1 n2
  simp only at n0 n1 n2
  have hsf := (Qr.tail_suf hr).length_le
  have hte := (Qr.tail_eats (r := r) (by rw [ht, h1]; simp)).2
  subst h1
  rw [show Qr.tx ⟨114, tt, tg⟩ = tt from rfl] at t1
  rw [show Qr.kR 114 = 1 from rfl] at t0
  have htok : Tx.valid tt = true ∧ tt.length ≤ 1000 := by
    have := h.ok (Qr.lk r) (hr.subset (Qr.lk_mem (by rw [ht]; simp)))
    rw [ht] at this
    exact this
  have hsz : (⟨tt.toArray⟩ : ByteArray).size ≤ 1000000 := by rw [Tx.size_mk]; omega
  obtain ⟨xs, hxs⟩ : ∃ xs, Qr.wordsB tt = xs := ⟨_, rfl⟩
  have HXS := Lib.hid hxs
  have hxl : xs.length ≤ 2000 := by
    rw [← hxs, Qr.wordsB_len]
    have := Tx.words_len htok.1
    omega
  have hop := Lib.hid (fun w => r21_anyOp_c ⟨114, tt, tg⟩ hleg w)
  rw [ha] at hop
  rw [show Qr.tx ⟨114, tt, tg⟩ = tt from rfl, show Qr.kR 114 = 1 from rfl] at hop
  have his := Lib.hid (fun w => r21_is_c ⟨nk, nt, ng⟩ hlegn 42 (by simp) w)
  obtain ⟨NX, hNX⟩ : ∃ X, Qr.tx ⟨nk, nt, ng⟩ = X := ⟨_, rfl⟩
  obtain ⟨NK, hNK⟩ : ∃ K, Qr.kR nk = K := ⟨_, rfl⟩
  rw [hNX] at n1 his
  rw [hNK] at n0 his
  simp only at his
  have hta2 := Qr.tail_at (Qr.tail_suf hr) (by rw [hn, hk]; simp)
  have HTB := Lib.hid hta2; clear hta2
  rw [hxs]
  have hl1 : xs.length = 1 := by rw [← hxs]; exact hl
  have hl1i : (xs.length : Int) = 1 := by omega
  subst hk
  subst hg
  rw [show ((42 : UInt8) == 42) = true from rfl] at his
  have HTA := Lib.hid hta
  clear ht htok hta hn hNX hNK ha hlegn hxs hl
  obtain ⟨A, hA⟩ : ∃ A, toks.length - r.length = A := ⟨_, rfl⟩
  rw [hA] at t0 t1 t2 n0 n1 n2 ⊢
  have HA := Lib.hid hA
  have hA1 : A ≤ toks.length := by omega
  have HH := Lib.hid h; clear h
  have HLG := Lib.hid hleg; clear hleg
  obtain ⟨W, hW⟩ : ∃ W, (w.alloc (.cells Qr.zeroP 52)).alloc (.cells #[.int .i64 1, .string ⟨tt.toArray⟩, .bool tg] 55) = W := ⟨_, rfl⟩
  have hB : Below w.heap.size w W := by rw [← hW]; exact (Tx.newb _ _).alloc (Tx.newb w _).size _
  have KR : Hid (W.heap[w.heap.size]? = some (.cells Qr.zeroP 52 (0, 0))) := Lib.hid (by rw [← hW]; exact Tx.blk_later (heap_alloc_new w _) (Tx.newb _ _))
  have KT : Hid (W.heap[w.heap.size + 1]? = some (.cells #[.int .i64 1, .string ⟨tt.toArray⟩, .bool tg] 55 (0, 0))) := Lib.hid (by rw [← hW]; have := heap_alloc_new (w.alloc (.cells Qr.zeroP 52)) (.cells #[.int .i64 1, .string ⟨tt.toArray⟩, .bool tg] 55); rwa [World.size_alloc] at this)
  have x0 : W.cell? ⟨w.heap.size + 1, 0, none⟩ = some (.int .i64 1) := (Tx.blk KT.out).1 0
  have x1 : W.cell? ⟨w.heap.size + 1, 1, none⟩ = some (.string ⟨tt.toArray⟩) := (Tx.blk KT.out).1 1
  have x2 : W.cell? ⟨w.heap.size + 1, 2, none⟩ = some (.bool tg) := (Tx.blk KT.out).1 2
  have hs : W.heap.size = w.heap.size + 2 := by rw [← hW]; simp
  have N0 := Lib.hid n0; have N1 := Lib.hid n1; have N2 := Lib.hid n2
  clear n0 n1 n2
  have HL1 := Lib.hid hl1; clear hl1
  go_enter Tryz.func97, Tryz.ntmps97
  go_wp2_with (first
    | (go_at_call 89; refine (his.out _).mono ?_; rintro e w4 ⟨rfl, hb4⟩; have s4 := hb4.size; rw [World.size_alloc] at s4; replace KR := Lib.hid (Tx.blk_later KR.out hb4); replace KT := Lib.hid (Tx.blk_later KT.out hb4); replace KQ := Lib.hid (Tx.blk_later KQ.out hb4); have h4B : Below w.heap.size w w4 := (h3B.alloc h3B.size _).trans (hb4.mono (Nat.le_trans h3B.size (by simp))); have p2 := cell_later h4B N2.out; have yy : w4.cell? ⟨w.heap.size + 1, 0, none⟩ = some (.int .i64 1) := (Tx.blk KT.out).1 0; have z0 : w4.cell? ⟨w.heap.size, 0, none⟩ = some (.int .i64 0) := (Tx.blk KR.out).1 0; have z1 : w4.cell? ⟨w.heap.size, 1, none⟩ = some (.int .i64 0) := (Tx.blk KR.out).1 1; have z2 : w4.cell? ⟨w.heap.size, 2, none⟩ = some (.slice none 0 0) := (Tx.blk KR.out).1 2; have z3 : w4.cell? ⟨w.heap.size, 3, none⟩ = some (.int .i64 0) := (Tx.blk KR.out).1 3; have z4 : w4.cell? ⟨w.heap.size, 4, none⟩ = some (.int .i64 0) := (Tx.blk KR.out).1 4; have z5 : w4.cell? ⟨w.heap.size, 5, none⟩ = some (.slice none 0 0) := (Tx.blk KR.out).1 5; have z6 : w4.cell? ⟨w.heap.size, 6, none⟩ = some (.int .i64 0) := (Tx.blk KR.out).1 6; have z7 : w4.cell? ⟨w.heap.size, 7, none⟩ = some (.bool false) := (Tx.blk KR.out).1 7; have zf : ∀ i, w4.frozen? ⟨w.heap.size, i, none⟩ = false := (Tx.blk KR.out).2.1; have q0 : w4.cell? ⟨w3.heap.size, 0, none⟩ = some (.int .i64 3) := (Tx.blk KQ.out).1 0; have q1 : w4.cell? ⟨w3.heap.size, 1, none⟩ = some (.int .i64 f) := (Tx.blk KQ.out).1 1; have q2 : w4.cell? ⟨w3.heap.size, 2, none⟩ = some (.slice sa xs.length sc) := (Tx.blk KQ.out).1 2; have q3 : w4.cell? ⟨w3.heap.size, 3, none⟩ = some (.int .i64 0) := (Tx.blk KQ.out).1 3; have q4 : w4.cell? ⟨w3.heap.size, 4, none⟩ = some (.int .i64 0) := (Tx.blk KQ.out).1 4; have q5 : w4.cell? ⟨w3.heap.size, 5, none⟩ = some (.slice none 0 0) := (Tx.blk KQ.out).1 5; have qf : ∀ i, w4.frozen? ⟨w3.heap.size, i, none⟩ = false := (Tx.blk KQ.out).2.1)
    | (go_at_call 106; refine (r01_Words_c ⟨tt.toArray⟩ _ (by omega)).mono ?_; rintro e w3 ⟨v, rfl, hown, hb3⟩; obtain ⟨sa, sc, rfl, hSL, hLo⟩ := Qr.own_words2 (l := tt) hown; clear hown; rw [HXS.out] at hSL hLo ⊢; have s3 := hb3.size; replace KR := Lib.hid (Tx.blk_later KR.out hb3); replace KT := Lib.hid (Tx.blk_later KT.out hb3); have y0 : w3.cell? ⟨w.heap.size + 1, 0, none⟩ = some (.int .i64 1) := (Tx.blk KT.out).1 0; have HSL := Lib.hid hSL; have HLO := Lib.hid hLo; clear hSL hLo; have h3B : Below w.heap.size w w3 := hB.trans ((Tx.step hb2 hb3).mono hB.size); have kr3 := Tx.blk_later KR.out (Tx.newb w3 (.cells #[.int .i64 3, .int .i64 f, .slice sa xs.length sc, .int .i64 0, .int .i64 0, .slice none 0 0] 25)); replace KR := Lib.hid kr3; clear kr3; have kt3 := Tx.blk_later KT.out (Tx.newb w3 (.cells #[.int .i64 3, .int .i64 f, .slice sa xs.length sc, .int .i64 0, .int .i64 0, .slice none 0 0] 25)); replace KT := Lib.hid kt3; clear kt3; have yy0 : (w3.alloc (.cells #[.int .i64 3, .int .i64 f, .slice sa xs.length sc, .int .i64 0, .int .i64 0, .slice none 0 0] 25)).cell? ⟨w.heap.size + 1, 0, none⟩ = some (.int .i64 1) := (Tx.blk KT.out).1 0; have KQ := Lib.hid (heap_alloc_new w3 (.cells #[.int .i64 3, .int .i64 f, .slice sa xs.length sc, .int .i64 0, .int .i64 0, .slice none 0 0] 25)); have m0 := cell_later h3B N0.out; have m1 := cell_later h3B N1.out; have m2 := cell_later h3B N2.out; have hb3s : b < w3.heap.size := Nat.lt_of_lt_of_le hbl h3B.size)
    | (go_at_call 90; refine (hop.out _).mono ?_; rintro e w2 ⟨rfl, hb2⟩; replace KR := Lib.hid (Tx.blk_later KR.out hb2); replace KT := Lib.hid (Tx.blk_later KT.out hb2); have s2 := hb2.size; have e1 : w2.cell? ⟨w.heap.size + 1, 1, none⟩ = some (.string ⟨tt.toArray⟩) := (Tx.blk KT.out).1 1))
  have hP := Qr.put8 (Tx.put6 h4B (show w.heap.size ≤ w3.heap.size from h3B.size) (.int .i64 2) (.int .i64 f) (.slice sa xs.length sc) (.int .i64 0) (.int .i64 0) (.slice none 0 0)) (Nat.le_refl _) (.int .i64 2) (.int .i64 f) (.slice sa xs.length sc) (.int .i64 0) (.int .i64 0) (.slice none 0 0) (.int .i64 ((A : Int) + 1 + 1)) (.bool true)
  refine bodyPost_ret (v := .agg #[.int .i64 2, .int .i64 f, .slice sa xs.length sc, .int .i64 0, .int .i64 0, .slice none 0 0, .int .i64 ((A : Int) + 1 + 1), .bool true]) (by simp [results, Tryz.results97, go_sem, z0, z1, z2, z3, z4, z5, z6, z7]) rfl (Qr.RRes.mk_some (by rw [HTB.out, HTA.out, HA.out]; omega) (Qr.QC.of_kids (ws := xs) (ks := []) (Qr.Kp.sl2 HSL.out (fun h1 ad l c2 h9 => Nat.le_trans (by omega) (HLO.out h1 ad l c2 h9)) ((((((((Qr.Kp.below (Tx.newb w3 _)).trans (Qr.Kp.below hb4)).setN (p := ⟨w3.heap.size, 0, none⟩) (Nat.le_refl _) _).setN (p := ⟨w3.heap.size, 1, none⟩) (Nat.le_refl _) _).setN (p := ⟨w3.heap.size, 2, none⟩) (Nat.le_refl _) _).setN (p := ⟨w3.heap.size, 3, none⟩) (Nat.le_refl _) _).setN (p := ⟨w3.heap.size, 4, none⟩) (Nat.le_refl _) _).setN (p := ⟨w3.heap.size, 5, none⟩) (Nat.le_refl _) _ |>.put8 (M := w.heap.size + 1) (by omega) _ _ _ _ _ _ _ _)) (fun h1 ad l c2 h9 => Nat.le_trans (by omega) (HLO.out h1 ad l c2 h9)) (Qr.KA.nil _ _)) hP)

set_option maxHeartbeats 3200000 in
theorem pt_s0 (toks r : List Qr.Tok) (b o c : Nat) (f : Int) (w : World) (h : Qr.RT w toks b o c) (hr : r <:+ toks) (tk : UInt8) (tt : List UInt8) (tg : Bool) (ht : Qr.lk r = ⟨tk, tt, tg⟩) (h1 : tk = 114) (ha : Qr.anyOp ⟨tk, tt, tg⟩ = false) (nk : UInt8) (nt : List UInt8) (ng : Bool) (hn : Qr.lk r.tail = ⟨nk, nt, ng⟩) (hk : nk = 42) (hg : ng = true) (hl : ¬ (Qr.wordsB tt).length = 1) (hx : Qr.wordsB tt ≠ []) :
    Calls Tryz.prog 97 #[.slice (some ⟨b, o, none⟩) (toks.length + 1) c, .int .i64 ((toks.length - r.length : Nat) : Int), .int .i64 f] w (Qr.RRes toks (none) w) := by
  have hleg := h.leg hr
  rw [ht] at hleg
  obtain ⟨t0, t1, t2⟩ := h.at_ r hr
  rw [ht] at t0 t1 t2
  simp only at t0 t1 t2
  have hrl := hr.length_le
  have hlen := h.len
  have hbl := h.lt
  have hcap := h.cap
  have hmax := h.max
  have hmx : maxLen = 9223372036854775807 := rfl
  have hta := Qr.tail_at hr (by rw [ht, h1]; simp)
  have hlegn := h.leg (Qr.tail_suf hr)
  rw [hn] at hlegn
  obtain ⟨n0, n1, n2⟩ := h.at_ r.tail (Qr.tail_suf hr)
  rw [hn, hta] at n0 n1 n2
  simp only at n0 n1 n2
  have hsf := (Qr.tail_suf hr).length_le
  have hte := (Qr.tail_eats (r := r) (by rw [ht, h1]; simp)).2
  subst h1
  rw [show Qr.tx ⟨114, tt, tg⟩ = tt from rfl] at t1
  rw [show Qr.kR 114 = 1 from rfl] at t0
  have htok : Tx.valid tt = true ∧ tt.length ≤ 1000 := by
    have := h.ok (Qr.lk r) (hr.subset (Qr.lk_mem (by rw [ht]; simp)))
    rw [ht] at this
    exact this
  have hsz : (⟨tt.toArray⟩ : ByteArray).size ≤ 1000000 := by rw [Tx.size_mk]; omega
  obtain ⟨xs, hxs⟩ : ∃ xs, Qr.wordsB tt = xs := ⟨_, rfl⟩
  have HXS := Lib.hid hxs
  have hxl : xs.length ≤ 2000 := by
    rw [← hxs, Qr.wordsB_len]
    have := Tx.words_len htok.1
    omega
  have hop := Lib.hid (fun w => r21_anyOp_c ⟨114, tt, tg⟩ hleg w)
  rw [ha] at hop
  rw [show Qr.tx ⟨114, tt, tg⟩ = tt from rfl, show Qr.kR 114 = 1 from rfl] at hop
  have his := Lib.hid (fun w => r21_is_c ⟨nk, nt, ng⟩ hlegn 42 (by simp) w)
  obtain ⟨NX, hNX⟩ : ∃ X, Qr.tx ⟨nk, nt, ng⟩ = X := ⟨_, rfl⟩
  obtain ⟨NK, hNK⟩ : ∃ K, Qr.kR nk = K := ⟨_, rfl⟩
  rw [hNX] at n1 his
  rw [hNK] at n0 his
  simp only at his
  have hln : ¬ (xs.length : Int) = 1 := by rw [← hxs]; omega
  have hlb : ((xs.length : Int) == 1) = false := beq_eq_false_iff_ne.2 hln
  have hxne : ¬ (xs.length : Int) = 0 := by
    rw [hxs] at hx
    intro h9
    exact hx (List.eq_nil_of_length_eq_zero (by omega))
  subst hk
  subst hg
  rw [show ((42 : UInt8) == 42) = true from rfl] at his
  have HTA := Lib.hid hta
  clear ht htok hta hn hNX hNK ha hlegn hxs hl hx
  obtain ⟨A, hA⟩ : ∃ A, toks.length - r.length = A := ⟨_, rfl⟩
  rw [hA] at t0 t1 t2 n0 n1 n2 ⊢
  have HA := Lib.hid hA
  have hA1 : A ≤ toks.length := by omega
  have HH := Lib.hid h; clear h
  have HLG := Lib.hid hleg; clear hleg
  obtain ⟨W, hW⟩ : ∃ W, (w.alloc (.cells Qr.zeroP 52)).alloc (.cells #[.int .i64 1, .string ⟨tt.toArray⟩, .bool tg] 55) = W := ⟨_, rfl⟩
  have hB : Below w.heap.size w W := by rw [← hW]; exact (Tx.newb _ _).alloc (Tx.newb w _).size _
  have KR : Hid (W.heap[w.heap.size]? = some (.cells Qr.zeroP 52 (0, 0))) := Lib.hid (by rw [← hW]; exact Tx.blk_later (heap_alloc_new w _) (Tx.newb _ _))
  have KT : Hid (W.heap[w.heap.size + 1]? = some (.cells #[.int .i64 1, .string ⟨tt.toArray⟩, .bool tg] 55 (0, 0))) := Lib.hid (by rw [← hW]; have := heap_alloc_new (w.alloc (.cells Qr.zeroP 52)) (.cells #[.int .i64 1, .string ⟨tt.toArray⟩, .bool tg] 55); rwa [World.size_alloc] at this)
  have x0 : W.cell? ⟨w.heap.size + 1, 0, none⟩ = some (.int .i64 1) := (Tx.blk KT.out).1 0
  have x1 : W.cell? ⟨w.heap.size + 1, 1, none⟩ = some (.string ⟨tt.toArray⟩) := (Tx.blk KT.out).1 1
  have x2 : W.cell? ⟨w.heap.size + 1, 2, none⟩ = some (.bool tg) := (Tx.blk KT.out).1 2
  have hs : W.heap.size = w.heap.size + 2 := by rw [← hW]; simp
  have N0 := Lib.hid n0; have N1 := Lib.hid n1; have N2 := Lib.hid n2
  clear n0 n1 n2
  go_enter Tryz.func97, Tryz.ntmps97
  go_wp2_with (first
    | (go_at_call 89; refine (his.out _).mono ?_; rintro e w4 ⟨rfl, hb4⟩; have s4 := hb4.size; rw [World.size_alloc] at s4; replace KR := Lib.hid (Tx.blk_later KR.out hb4); replace KT := Lib.hid (Tx.blk_later KT.out hb4); replace KQ := Lib.hid (Tx.blk_later KQ.out hb4); have h4B : Below w.heap.size w w4 := (h3B.alloc h3B.size _).trans (hb4.mono (Nat.le_trans h3B.size (by simp))); have p2 := cell_later h4B N2.out; have yy : w4.cell? ⟨w.heap.size + 1, 0, none⟩ = some (.int .i64 1) := (Tx.blk KT.out).1 0; have z0 : w4.cell? ⟨w.heap.size, 0, none⟩ = some (.int .i64 0) := (Tx.blk KR.out).1 0; have z1 : w4.cell? ⟨w.heap.size, 1, none⟩ = some (.int .i64 0) := (Tx.blk KR.out).1 1; have z2 : w4.cell? ⟨w.heap.size, 2, none⟩ = some (.slice none 0 0) := (Tx.blk KR.out).1 2; have z3 : w4.cell? ⟨w.heap.size, 3, none⟩ = some (.int .i64 0) := (Tx.blk KR.out).1 3; have z4 : w4.cell? ⟨w.heap.size, 4, none⟩ = some (.int .i64 0) := (Tx.blk KR.out).1 4; have z5 : w4.cell? ⟨w.heap.size, 5, none⟩ = some (.slice none 0 0) := (Tx.blk KR.out).1 5; have z6 : w4.cell? ⟨w.heap.size, 6, none⟩ = some (.int .i64 0) := (Tx.blk KR.out).1 6; have z7 : w4.cell? ⟨w.heap.size, 7, none⟩ = some (.bool false) := (Tx.blk KR.out).1 7; have zf : ∀ i, w4.frozen? ⟨w.heap.size, i, none⟩ = false := (Tx.blk KR.out).2.1; have q0 : w4.cell? ⟨w3.heap.size, 0, none⟩ = some (.int .i64 3) := (Tx.blk KQ.out).1 0; have q1 : w4.cell? ⟨w3.heap.size, 1, none⟩ = some (.int .i64 f) := (Tx.blk KQ.out).1 1; have q2 : w4.cell? ⟨w3.heap.size, 2, none⟩ = some (.slice sa xs.length sc) := (Tx.blk KQ.out).1 2; have q3 : w4.cell? ⟨w3.heap.size, 3, none⟩ = some (.int .i64 0) := (Tx.blk KQ.out).1 3; have q4 : w4.cell? ⟨w3.heap.size, 4, none⟩ = some (.int .i64 0) := (Tx.blk KQ.out).1 4; have q5 : w4.cell? ⟨w3.heap.size, 5, none⟩ = some (.slice none 0 0) := (Tx.blk KQ.out).1 5; have qf : ∀ i, w4.frozen? ⟨w3.heap.size, i, none⟩ = false := (Tx.blk KQ.out).2.1)
    | (go_at_call 106; refine (r01_Words_c ⟨tt.toArray⟩ _ (by omega)).mono ?_; rintro e w3 ⟨v, rfl, hown, hb3⟩; obtain ⟨sa, sc, rfl, hSL, hLo⟩ := Qr.own_words2 (l := tt) hown; clear hown; rw [HXS.out] at hSL hLo ⊢; have s3 := hb3.size; replace KR := Lib.hid (Tx.blk_later KR.out hb3); replace KT := Lib.hid (Tx.blk_later KT.out hb3); have y0 : w3.cell? ⟨w.heap.size + 1, 0, none⟩ = some (.int .i64 1) := (Tx.blk KT.out).1 0; have HSL := Lib.hid hSL; have HLO := Lib.hid hLo; clear hSL hLo; have h3B : Below w.heap.size w w3 := hB.trans ((Tx.step hb2 hb3).mono hB.size); have kr3 := Tx.blk_later KR.out (Tx.newb w3 (.cells #[.int .i64 3, .int .i64 f, .slice sa xs.length sc, .int .i64 0, .int .i64 0, .slice none 0 0] 25)); replace KR := Lib.hid kr3; clear kr3; have kt3 := Tx.blk_later KT.out (Tx.newb w3 (.cells #[.int .i64 3, .int .i64 f, .slice sa xs.length sc, .int .i64 0, .int .i64 0, .slice none 0 0] 25)); replace KT := Lib.hid kt3; clear kt3; have yy0 : (w3.alloc (.cells #[.int .i64 3, .int .i64 f, .slice sa xs.length sc, .int .i64 0, .int .i64 0, .slice none 0 0] 25)).cell? ⟨w.heap.size + 1, 0, none⟩ = some (.int .i64 1) := (Tx.blk KT.out).1 0; have KQ := Lib.hid (heap_alloc_new w3 (.cells #[.int .i64 3, .int .i64 f, .slice sa xs.length sc, .int .i64 0, .int .i64 0, .slice none 0 0] 25)); have m0 := cell_later h3B N0.out; have m1 := cell_later h3B N1.out; have m2 := cell_later h3B N2.out; have hb3s : b < w3.heap.size := Nat.lt_of_lt_of_le hbl h3B.size)
    | (go_at_call 90; refine (hop.out _).mono ?_; rintro e w2 ⟨rfl, hb2⟩; replace KR := Lib.hid (Tx.blk_later KR.out hb2); replace KT := Lib.hid (Tx.blk_later KT.out hb2); have s2 := hb2.size; have e1 : w2.cell? ⟨w.heap.size + 1, 1, none⟩ = some (.string ⟨tt.toArray⟩) := (Tx.blk KT.out).1 1))
  have hP := Qr.put8 (Tx.put6 h4B (show w.heap.size ≤ w3.heap.size from h3B.size) (.int .i64 2) (.int .i64 f) (.slice sa xs.length sc) (.int .i64 0) (.int .i64 0) (.slice none 0 0)) (Nat.le_refl _) (.int .i64 2) (.int .i64 f) (.slice sa xs.length sc) (.int .i64 0) (.int .i64 0) (.slice none 0 0) (.int .i64 ((A : Int) + 1 + 1)) (.bool false)
  refine bodyPost_ret (v := .agg #[.int .i64 2, .int .i64 f, .slice sa xs.length sc, .int .i64 0, .int .i64 0, .slice none 0 0, .int .i64 ((A : Int) + 1 + 1), .bool false]) (by simp [results, Tryz.results97, go_sem, z0, z1, z2, z3, z4, z5, z6, z7]) rfl (Qr.RRes.mk_none hP)

set_option maxHeartbeats 3200000 in
theorem pt_g1 (toks r : List Qr.Tok) (b o c : Nat) (f : Int) (w : World) (h : Qr.RT w toks b o c) (hr : r <:+ toks) (tk : UInt8) (tt : List UInt8) (tg : Bool) (ht : Qr.lk r = ⟨tk, tt, tg⟩) (h1 : tk = 114) (ha : Qr.anyOp ⟨tk, tt, tg⟩ = false) (nk : UInt8) (nt : List UInt8) (ng : Bool) (hn : Qr.lk r.tail = ⟨nk, nt, ng⟩) (hk : nk = 42) (hg : ng = false) (hl : (Qr.wordsB tt).length = 1) :
    Calls Tryz.prog 97 #[.slice (some ⟨b, o, none⟩) (toks.length + 1) c, .int .i64 ((toks.length - r.length : Nat) : Int), .int .i64 f] w (Qr.RRes toks (some (.mk 1 f (Qr.wordsB tt) 0 0 [], r.tail)) w) := by
  have hleg := h.leg hr
  rw [ht] at hleg
  obtain ⟨t0, t1, t2⟩ := h.at_ r hr
  rw [ht] at t0 t1 t2
  simp only at t0 t1 t2
  have hrl := hr.length_le
  have hlen := h.len
  have hbl := h.lt
  have hcap := h.cap
  have hmax := h.max
  have hmx : maxLen = 9223372036854775807 := rfl
  have hta := Qr.tail_at hr (by rw [ht, h1]; simp)
  have hlegn := h.leg (Qr.tail_suf hr)
  rw [hn] at hlegn
  obtain ⟨n0, n1, n2⟩ := h.at_ r.tail (Qr.tail_suf hr)
  rw [hn, hta] at n0 n1 n2
  simp only at n0 n1 n2
  have hsf := (Qr.tail_suf hr).length_le
  have hte := (Qr.tail_eats (r := r) (by rw [ht, h1]; simp)).2
  subst h1
  rw [show Qr.tx ⟨114, tt, tg⟩ = tt from rfl] at t1
  rw [show Qr.kR 114 = 1 from rfl] at t0
  have htok : Tx.valid tt = true ∧ tt.length ≤ 1000 := by
    have := h.ok (Qr.lk r) (hr.subset (Qr.lk_mem (by rw [ht]; simp)))
    rw [ht] at this
    exact this
  have hsz : (⟨tt.toArray⟩ : ByteArray).size ≤ 1000000 := by rw [Tx.size_mk]; omega
  obtain ⟨xs, hxs⟩ : ∃ xs, Qr.wordsB tt = xs := ⟨_, rfl⟩
  have HXS := Lib.hid hxs
  have hxl : xs.length ≤ 2000 := by
    rw [← hxs, Qr.wordsB_len]
    have := Tx.words_len htok.1
    omega
  have hop := Lib.hid (fun w => r21_anyOp_c ⟨114, tt, tg⟩ hleg w)
  rw [ha] at hop
  rw [show Qr.tx ⟨114, tt, tg⟩ = tt from rfl, show Qr.kR 114 = 1 from rfl] at hop
  have his := Lib.hid (fun w => r21_is_c ⟨nk, nt, ng⟩ hlegn 42 (by simp) w)
  obtain ⟨NX, hNX⟩ : ∃ X, Qr.tx ⟨nk, nt, ng⟩ = X := ⟨_, rfl⟩
  obtain ⟨NK, hNK⟩ : ∃ K, Qr.kR nk = K := ⟨_, rfl⟩
  rw [hNX] at n1 his
  rw [hNK] at n0 his
  simp only at his
  rw [hxs]
  have hl1 : xs.length = 1 := by rw [← hxs]; exact hl
  have hl1i : (xs.length : Int) = 1 := by omega
  subst hk
  subst hg
  rw [show ((42 : UInt8) == 42) = true from rfl] at his
  have HTA := Lib.hid hta
  clear ht htok hta hn hNX hNK ha hlegn hxs hl
  obtain ⟨A, hA⟩ : ∃ A, toks.length - r.length = A := ⟨_, rfl⟩
  rw [hA] at t0 t1 t2 n0 n1 n2 ⊢
  have HA := Lib.hid hA
  have hA1 : A ≤ toks.length := by omega
  have HH := Lib.hid h; clear h
  have HLG := Lib.hid hleg; clear hleg
  obtain ⟨W, hW⟩ : ∃ W, (w.alloc (.cells Qr.zeroP 52)).alloc (.cells #[.int .i64 1, .string ⟨tt.toArray⟩, .bool tg] 55) = W := ⟨_, rfl⟩
  have hB : Below w.heap.size w W := by rw [← hW]; exact (Tx.newb _ _).alloc (Tx.newb w _).size _
  have KR : Hid (W.heap[w.heap.size]? = some (.cells Qr.zeroP 52 (0, 0))) := Lib.hid (by rw [← hW]; exact Tx.blk_later (heap_alloc_new w _) (Tx.newb _ _))
  have KT : Hid (W.heap[w.heap.size + 1]? = some (.cells #[.int .i64 1, .string ⟨tt.toArray⟩, .bool tg] 55 (0, 0))) := Lib.hid (by rw [← hW]; have := heap_alloc_new (w.alloc (.cells Qr.zeroP 52)) (.cells #[.int .i64 1, .string ⟨tt.toArray⟩, .bool tg] 55); rwa [World.size_alloc] at this)
  have x0 : W.cell? ⟨w.heap.size + 1, 0, none⟩ = some (.int .i64 1) := (Tx.blk KT.out).1 0
  have x1 : W.cell? ⟨w.heap.size + 1, 1, none⟩ = some (.string ⟨tt.toArray⟩) := (Tx.blk KT.out).1 1
  have x2 : W.cell? ⟨w.heap.size + 1, 2, none⟩ = some (.bool tg) := (Tx.blk KT.out).1 2
  have hs : W.heap.size = w.heap.size + 2 := by rw [← hW]; simp
  have N0 := Lib.hid n0; have N1 := Lib.hid n1; have N2 := Lib.hid n2
  clear n0 n1 n2
  have HL1 := Lib.hid hl1; clear hl1
  go_enter Tryz.func97, Tryz.ntmps97
  go_wp2_with (first
    | (go_at_call 89; refine (his.out _).mono ?_; rintro e w4 ⟨rfl, hb4⟩; have s4 := hb4.size; rw [World.size_alloc] at s4; replace KR := Lib.hid (Tx.blk_later KR.out hb4); replace KT := Lib.hid (Tx.blk_later KT.out hb4); replace KQ := Lib.hid (Tx.blk_later KQ.out hb4); have h4B : Below w.heap.size w w4 := (h3B.alloc h3B.size _).trans (hb4.mono (Nat.le_trans h3B.size (by simp))); have p2 := cell_later h4B N2.out; have yy : w4.cell? ⟨w.heap.size + 1, 0, none⟩ = some (.int .i64 1) := (Tx.blk KT.out).1 0; have z0 : w4.cell? ⟨w.heap.size, 0, none⟩ = some (.int .i64 0) := (Tx.blk KR.out).1 0; have z1 : w4.cell? ⟨w.heap.size, 1, none⟩ = some (.int .i64 0) := (Tx.blk KR.out).1 1; have z2 : w4.cell? ⟨w.heap.size, 2, none⟩ = some (.slice none 0 0) := (Tx.blk KR.out).1 2; have z3 : w4.cell? ⟨w.heap.size, 3, none⟩ = some (.int .i64 0) := (Tx.blk KR.out).1 3; have z4 : w4.cell? ⟨w.heap.size, 4, none⟩ = some (.int .i64 0) := (Tx.blk KR.out).1 4; have z5 : w4.cell? ⟨w.heap.size, 5, none⟩ = some (.slice none 0 0) := (Tx.blk KR.out).1 5; have z6 : w4.cell? ⟨w.heap.size, 6, none⟩ = some (.int .i64 0) := (Tx.blk KR.out).1 6; have z7 : w4.cell? ⟨w.heap.size, 7, none⟩ = some (.bool false) := (Tx.blk KR.out).1 7; have zf : ∀ i, w4.frozen? ⟨w.heap.size, i, none⟩ = false := (Tx.blk KR.out).2.1; have q0 : w4.cell? ⟨w3.heap.size, 0, none⟩ = some (.int .i64 3) := (Tx.blk KQ.out).1 0; have q1 : w4.cell? ⟨w3.heap.size, 1, none⟩ = some (.int .i64 f) := (Tx.blk KQ.out).1 1; have q2 : w4.cell? ⟨w3.heap.size, 2, none⟩ = some (.slice sa xs.length sc) := (Tx.blk KQ.out).1 2; have q3 : w4.cell? ⟨w3.heap.size, 3, none⟩ = some (.int .i64 0) := (Tx.blk KQ.out).1 3; have q4 : w4.cell? ⟨w3.heap.size, 4, none⟩ = some (.int .i64 0) := (Tx.blk KQ.out).1 4; have q5 : w4.cell? ⟨w3.heap.size, 5, none⟩ = some (.slice none 0 0) := (Tx.blk KQ.out).1 5; have qf : ∀ i, w4.frozen? ⟨w3.heap.size, i, none⟩ = false := (Tx.blk KQ.out).2.1)
    | (go_at_call 106; refine (r01_Words_c ⟨tt.toArray⟩ _ (by omega)).mono ?_; rintro e w3 ⟨v, rfl, hown, hb3⟩; obtain ⟨sa, sc, rfl, hSL, hLo⟩ := Qr.own_words2 (l := tt) hown; clear hown; rw [HXS.out] at hSL hLo ⊢; have s3 := hb3.size; replace KR := Lib.hid (Tx.blk_later KR.out hb3); replace KT := Lib.hid (Tx.blk_later KT.out hb3); have y0 : w3.cell? ⟨w.heap.size + 1, 0, none⟩ = some (.int .i64 1) := (Tx.blk KT.out).1 0; have HSL := Lib.hid hSL; have HLO := Lib.hid hLo; clear hSL hLo; have h3B : Below w.heap.size w w3 := hB.trans ((Tx.step hb2 hb3).mono hB.size); have kr3 := Tx.blk_later KR.out (Tx.newb w3 (.cells #[.int .i64 3, .int .i64 f, .slice sa xs.length sc, .int .i64 0, .int .i64 0, .slice none 0 0] 25)); replace KR := Lib.hid kr3; clear kr3; have kt3 := Tx.blk_later KT.out (Tx.newb w3 (.cells #[.int .i64 3, .int .i64 f, .slice sa xs.length sc, .int .i64 0, .int .i64 0, .slice none 0 0] 25)); replace KT := Lib.hid kt3; clear kt3; have yy0 : (w3.alloc (.cells #[.int .i64 3, .int .i64 f, .slice sa xs.length sc, .int .i64 0, .int .i64 0, .slice none 0 0] 25)).cell? ⟨w.heap.size + 1, 0, none⟩ = some (.int .i64 1) := (Tx.blk KT.out).1 0; have KQ := Lib.hid (heap_alloc_new w3 (.cells #[.int .i64 3, .int .i64 f, .slice sa xs.length sc, .int .i64 0, .int .i64 0, .slice none 0 0] 25)); have m0 := cell_later h3B N0.out; have m1 := cell_later h3B N1.out; have m2 := cell_later h3B N2.out; have hb3s : b < w3.heap.size := Nat.lt_of_lt_of_le hbl h3B.size)
    | (go_at_call 90; refine (hop.out _).mono ?_; rintro e w2 ⟨rfl, hb2⟩; replace KR := Lib.hid (Tx.blk_later KR.out hb2); replace KT := Lib.hid (Tx.blk_later KT.out hb2); have s2 := hb2.size; have e1 : w2.cell? ⟨w.heap.size + 1, 1, none⟩ = some (.string ⟨tt.toArray⟩) := (Tx.blk KT.out).1 1))
  have hP := Qr.put8 (Tx.put6 h4B (show w.heap.size ≤ w3.heap.size from h3B.size) (.int .i64 1) (.int .i64 f) (.slice sa xs.length sc) (.int .i64 0) (.int .i64 0) (.slice none 0 0)) (Nat.le_refl _) (.int .i64 1) (.int .i64 f) (.slice sa xs.length sc) (.int .i64 0) (.int .i64 0) (.slice none 0 0) (.int .i64 ((A : Int) + 1)) (.bool true)
  refine bodyPost_ret (v := .agg #[.int .i64 1, .int .i64 f, .slice sa xs.length sc, .int .i64 0, .int .i64 0, .slice none 0 0, .int .i64 ((A : Int) + 1), .bool true]) (by simp [results, Tryz.results97, go_sem, z0, z1, z2, z3, z4, z5, z6, z7]) rfl (Qr.RRes.mk_some (by rw [HTA.out, HA.out]; omega) (Qr.QC.of_kids (ws := xs) (ks := []) (Qr.Kp.sl2 HSL.out (fun h1 ad l c2 h9 => Nat.le_trans (by omega) (HLO.out h1 ad l c2 h9)) ((((((((Qr.Kp.below (Tx.newb w3 _)).trans (Qr.Kp.below hb4)).setN (p := ⟨w3.heap.size, 0, none⟩) (Nat.le_refl _) _).setN (p := ⟨w3.heap.size, 1, none⟩) (Nat.le_refl _) _).setN (p := ⟨w3.heap.size, 2, none⟩) (Nat.le_refl _) _).setN (p := ⟨w3.heap.size, 3, none⟩) (Nat.le_refl _) _).setN (p := ⟨w3.heap.size, 4, none⟩) (Nat.le_refl _) _).setN (p := ⟨w3.heap.size, 5, none⟩) (Nat.le_refl _) _ |>.put8 (M := w.heap.size + 1) (by omega) _ _ _ _ _ _ _ _)) (fun h1 ad l c2 h9 => Nat.le_trans (by omega) (HLO.out h1 ad l c2 h9)) (Qr.KA.nil _ _)) hP)

set_option maxHeartbeats 3200000 in
theorem pt_g0 (toks r : List Qr.Tok) (b o c : Nat) (f : Int) (w : World) (h : Qr.RT w toks b o c) (hr : r <:+ toks) (tk : UInt8) (tt : List UInt8) (tg : Bool) (ht : Qr.lk r = ⟨tk, tt, tg⟩) (h1 : tk = 114) (ha : Qr.anyOp ⟨tk, tt, tg⟩ = false) (nk : UInt8) (nt : List UInt8) (ng : Bool) (hn : Qr.lk r.tail = ⟨nk, nt, ng⟩) (hk : nk = 42) (hg : ng = false) (hl : ¬ (Qr.wordsB tt).length = 1) (hx : Qr.wordsB tt ≠ []) :
    Calls Tryz.prog 97 #[.slice (some ⟨b, o, none⟩) (toks.length + 1) c, .int .i64 ((toks.length - r.length : Nat) : Int), .int .i64 f] w (Qr.RRes toks (some (.mk 3 f (Qr.wordsB tt) 0 0 [], r.tail)) w) := by
  have hleg := h.leg hr
  rw [ht] at hleg
  obtain ⟨t0, t1, t2⟩ := h.at_ r hr
  rw [ht] at t0 t1 t2
  simp only at t0 t1 t2
  have hrl := hr.length_le
  have hlen := h.len
  have hbl := h.lt
  have hcap := h.cap
  have hmax := h.max
  have hmx : maxLen = 9223372036854775807 := rfl
  have hta := Qr.tail_at hr (by rw [ht, h1]; simp)
  have hlegn := h.leg (Qr.tail_suf hr)
  rw [hn] at hlegn
  obtain ⟨n0, n1, n2⟩ := h.at_ r.tail (Qr.tail_suf hr)
  rw [hn, hta] at n0 n1 n2
  simp only at n0 n1 n2
  have hsf := (Qr.tail_suf hr).length_le
  have hte := (Qr.tail_eats (r := r) (by rw [ht, h1]; simp)).2
  subst h1
  rw [show Qr.tx ⟨114, tt, tg⟩ = tt from rfl] at t1
  rw [show Qr.kR 114 = 1 from rfl] at t0
  have htok : Tx.valid tt = true ∧ tt.length ≤ 1000 := by
    have := h.ok (Qr.lk r) (hr.subset (Qr.lk_mem (by rw [ht]; simp)))
    rw [ht] at this
    exact this
  have hsz : (⟨tt.toArray⟩ : ByteArray).size ≤ 1000000 := by rw [Tx.size_mk]; omega
  obtain ⟨xs, hxs⟩ : ∃ xs, Qr.wordsB tt = xs := ⟨_, rfl⟩
  have HXS := Lib.hid hxs
  have hxl : xs.length ≤ 2000 := by
    rw [← hxs, Qr.wordsB_len]
    have := Tx.words_len htok.1
    omega
  have hop := Lib.hid (fun w => r21_anyOp_c ⟨114, tt, tg⟩ hleg w)
  rw [ha] at hop
  rw [show Qr.tx ⟨114, tt, tg⟩ = tt from rfl, show Qr.kR 114 = 1 from rfl] at hop
  have his := Lib.hid (fun w => r21_is_c ⟨nk, nt, ng⟩ hlegn 42 (by simp) w)
  obtain ⟨NX, hNX⟩ : ∃ X, Qr.tx ⟨nk, nt, ng⟩ = X := ⟨_, rfl⟩
  obtain ⟨NK, hNK⟩ : ∃ K, Qr.kR nk = K := ⟨_, rfl⟩
  rw [hNX] at n1 his
  rw [hNK] at n0 his
  simp only at his
  rw [hxs]
  have hln : ¬ (xs.length : Int) = 1 := by rw [← hxs]; omega
  have hlb : ((xs.length : Int) == 1) = false := beq_eq_false_iff_ne.2 hln
  have hxne : ¬ (xs.length : Int) = 0 := by
    rw [hxs] at hx
    intro h9
    exact hx (List.eq_nil_of_length_eq_zero (by omega))
  subst hk
  subst hg
  rw [show ((42 : UInt8) == 42) = true from rfl] at his
  have HTA := Lib.hid hta
  clear ht htok hta hn hNX hNK ha hlegn hxs hl hx
  obtain ⟨A, hA⟩ : ∃ A, toks.length - r.length = A := ⟨_, rfl⟩
  rw [hA] at t0 t1 t2 n0 n1 n2 ⊢
  have HA := Lib.hid hA
  have hA1 : A ≤ toks.length := by omega
  have HH := Lib.hid h; clear h
  have HLG := Lib.hid hleg; clear hleg
  obtain ⟨W, hW⟩ : ∃ W, (w.alloc (.cells Qr.zeroP 52)).alloc (.cells #[.int .i64 1, .string ⟨tt.toArray⟩, .bool tg] 55) = W := ⟨_, rfl⟩
  have hB : Below w.heap.size w W := by rw [← hW]; exact (Tx.newb _ _).alloc (Tx.newb w _).size _
  have KR : Hid (W.heap[w.heap.size]? = some (.cells Qr.zeroP 52 (0, 0))) := Lib.hid (by rw [← hW]; exact Tx.blk_later (heap_alloc_new w _) (Tx.newb _ _))
  have KT : Hid (W.heap[w.heap.size + 1]? = some (.cells #[.int .i64 1, .string ⟨tt.toArray⟩, .bool tg] 55 (0, 0))) := Lib.hid (by rw [← hW]; have := heap_alloc_new (w.alloc (.cells Qr.zeroP 52)) (.cells #[.int .i64 1, .string ⟨tt.toArray⟩, .bool tg] 55); rwa [World.size_alloc] at this)
  have x0 : W.cell? ⟨w.heap.size + 1, 0, none⟩ = some (.int .i64 1) := (Tx.blk KT.out).1 0
  have x1 : W.cell? ⟨w.heap.size + 1, 1, none⟩ = some (.string ⟨tt.toArray⟩) := (Tx.blk KT.out).1 1
  have x2 : W.cell? ⟨w.heap.size + 1, 2, none⟩ = some (.bool tg) := (Tx.blk KT.out).1 2
  have hs : W.heap.size = w.heap.size + 2 := by rw [← hW]; simp
  have N0 := Lib.hid n0; have N1 := Lib.hid n1; have N2 := Lib.hid n2
  clear n0 n1 n2
  go_enter Tryz.func97, Tryz.ntmps97
  go_wp2_with (first
    | (go_at_call 89; refine (his.out _).mono ?_; rintro e w4 ⟨rfl, hb4⟩; have s4 := hb4.size; rw [World.size_alloc] at s4; replace KR := Lib.hid (Tx.blk_later KR.out hb4); replace KT := Lib.hid (Tx.blk_later KT.out hb4); replace KQ := Lib.hid (Tx.blk_later KQ.out hb4); have h4B : Below w.heap.size w w4 := (h3B.alloc h3B.size _).trans (hb4.mono (Nat.le_trans h3B.size (by simp))); have p2 := cell_later h4B N2.out; have yy : w4.cell? ⟨w.heap.size + 1, 0, none⟩ = some (.int .i64 1) := (Tx.blk KT.out).1 0; have z0 : w4.cell? ⟨w.heap.size, 0, none⟩ = some (.int .i64 0) := (Tx.blk KR.out).1 0; have z1 : w4.cell? ⟨w.heap.size, 1, none⟩ = some (.int .i64 0) := (Tx.blk KR.out).1 1; have z2 : w4.cell? ⟨w.heap.size, 2, none⟩ = some (.slice none 0 0) := (Tx.blk KR.out).1 2; have z3 : w4.cell? ⟨w.heap.size, 3, none⟩ = some (.int .i64 0) := (Tx.blk KR.out).1 3; have z4 : w4.cell? ⟨w.heap.size, 4, none⟩ = some (.int .i64 0) := (Tx.blk KR.out).1 4; have z5 : w4.cell? ⟨w.heap.size, 5, none⟩ = some (.slice none 0 0) := (Tx.blk KR.out).1 5; have z6 : w4.cell? ⟨w.heap.size, 6, none⟩ = some (.int .i64 0) := (Tx.blk KR.out).1 6; have z7 : w4.cell? ⟨w.heap.size, 7, none⟩ = some (.bool false) := (Tx.blk KR.out).1 7; have zf : ∀ i, w4.frozen? ⟨w.heap.size, i, none⟩ = false := (Tx.blk KR.out).2.1; have q0 : w4.cell? ⟨w3.heap.size, 0, none⟩ = some (.int .i64 3) := (Tx.blk KQ.out).1 0; have q1 : w4.cell? ⟨w3.heap.size, 1, none⟩ = some (.int .i64 f) := (Tx.blk KQ.out).1 1; have q2 : w4.cell? ⟨w3.heap.size, 2, none⟩ = some (.slice sa xs.length sc) := (Tx.blk KQ.out).1 2; have q3 : w4.cell? ⟨w3.heap.size, 3, none⟩ = some (.int .i64 0) := (Tx.blk KQ.out).1 3; have q4 : w4.cell? ⟨w3.heap.size, 4, none⟩ = some (.int .i64 0) := (Tx.blk KQ.out).1 4; have q5 : w4.cell? ⟨w3.heap.size, 5, none⟩ = some (.slice none 0 0) := (Tx.blk KQ.out).1 5; have qf : ∀ i, w4.frozen? ⟨w3.heap.size, i, none⟩ = false := (Tx.blk KQ.out).2.1)
    | (go_at_call 106; refine (r01_Words_c ⟨tt.toArray⟩ _ (by omega)).mono ?_; rintro e w3 ⟨v, rfl, hown, hb3⟩; obtain ⟨sa, sc, rfl, hSL, hLo⟩ := Qr.own_words2 (l := tt) hown; clear hown; rw [HXS.out] at hSL hLo ⊢; have s3 := hb3.size; replace KR := Lib.hid (Tx.blk_later KR.out hb3); replace KT := Lib.hid (Tx.blk_later KT.out hb3); have y0 : w3.cell? ⟨w.heap.size + 1, 0, none⟩ = some (.int .i64 1) := (Tx.blk KT.out).1 0; have HSL := Lib.hid hSL; have HLO := Lib.hid hLo; clear hSL hLo; have h3B : Below w.heap.size w w3 := hB.trans ((Tx.step hb2 hb3).mono hB.size); have kr3 := Tx.blk_later KR.out (Tx.newb w3 (.cells #[.int .i64 3, .int .i64 f, .slice sa xs.length sc, .int .i64 0, .int .i64 0, .slice none 0 0] 25)); replace KR := Lib.hid kr3; clear kr3; have kt3 := Tx.blk_later KT.out (Tx.newb w3 (.cells #[.int .i64 3, .int .i64 f, .slice sa xs.length sc, .int .i64 0, .int .i64 0, .slice none 0 0] 25)); replace KT := Lib.hid kt3; clear kt3; have yy0 : (w3.alloc (.cells #[.int .i64 3, .int .i64 f, .slice sa xs.length sc, .int .i64 0, .int .i64 0, .slice none 0 0] 25)).cell? ⟨w.heap.size + 1, 0, none⟩ = some (.int .i64 1) := (Tx.blk KT.out).1 0; have KQ := Lib.hid (heap_alloc_new w3 (.cells #[.int .i64 3, .int .i64 f, .slice sa xs.length sc, .int .i64 0, .int .i64 0, .slice none 0 0] 25)); have m0 := cell_later h3B N0.out; have m1 := cell_later h3B N1.out; have m2 := cell_later h3B N2.out; have hb3s : b < w3.heap.size := Nat.lt_of_lt_of_le hbl h3B.size)
    | (go_at_call 90; refine (hop.out _).mono ?_; rintro e w2 ⟨rfl, hb2⟩; replace KR := Lib.hid (Tx.blk_later KR.out hb2); replace KT := Lib.hid (Tx.blk_later KT.out hb2); have s2 := hb2.size; have e1 : w2.cell? ⟨w.heap.size + 1, 1, none⟩ = some (.string ⟨tt.toArray⟩) := (Tx.blk KT.out).1 1))
  have hP := Qr.put8 h4B (Nat.le_refl _) (.int .i64 3) (.int .i64 f) (.slice sa xs.length sc) (.int .i64 0) (.int .i64 0) (.slice none 0 0) (.int .i64 ((A : Int) + 1)) (.bool true)
  refine bodyPost_ret (v := .agg #[.int .i64 3, .int .i64 f, .slice sa xs.length sc, .int .i64 0, .int .i64 0, .slice none 0 0, .int .i64 ((A : Int) + 1), .bool true]) (by simp [results, Tryz.results97, go_sem, z0, z1, z2, z3, z4, z5, z6, z7]) rfl (Qr.RRes.mk_some (by rw [HTA.out, HA.out]; omega) (Qr.QC.of_kids (ws := xs) (ks := []) (Qr.Kp.sl2 HSL.out (fun h1 ad l c2 h9 => Nat.le_trans (by omega) (HLO.out h1 ad l c2 h9)) (((Qr.Kp.below (Tx.newb w3 _)).trans (Qr.Kp.below hb4)).put8 (M := w.heap.size + 1) (by omega) _ _ _ _ _ _ _ _)) (fun h1 ad l c2 h9 => Nat.le_trans (by omega) (HLO.out h1 ad l c2 h9)) (Qr.KA.nil _ _)) hP)

set_option maxHeartbeats 3200000 in
theorem pt_n1 (toks r : List Qr.Tok) (b o c : Nat) (f : Int) (w : World) (h : Qr.RT w toks b o c) (hr : r <:+ toks) (tk : UInt8) (tt : List UInt8) (tg : Bool) (ht : Qr.lk r = ⟨tk, tt, tg⟩) (h1 : tk = 114) (ha : Qr.anyOp ⟨tk, tt, tg⟩ = false) (nk : UInt8) (nt : List UInt8) (ng : Bool) (hn : Qr.lk r.tail = ⟨nk, nt, ng⟩) (hk : (nk == 42) = false) (hl : (Qr.wordsB tt).length = 1) :
    Calls Tryz.prog 97 #[.slice (some ⟨b, o, none⟩) (toks.length + 1) c, .int .i64 ((toks.length - r.length : Nat) : Int), .int .i64 f] w (Qr.RRes toks (some (.mk 1 f (Qr.wordsB tt) 0 0 [], r.tail)) w) := by
  have hleg := h.leg hr
  rw [ht] at hleg
  obtain ⟨t0, t1, t2⟩ := h.at_ r hr
  rw [ht] at t0 t1 t2
  simp only at t0 t1 t2
  have hrl := hr.length_le
  have hlen := h.len
  have hbl := h.lt
  have hcap := h.cap
  have hmax := h.max
  have hmx : maxLen = 9223372036854775807 := rfl
  have hta := Qr.tail_at hr (by rw [ht, h1]; simp)
  have hlegn := h.leg (Qr.tail_suf hr)
  rw [hn] at hlegn
  obtain ⟨n0, n1, n2⟩ := h.at_ r.tail (Qr.tail_suf hr)
  rw [hn, hta] at n0 n1 n2
  simp only at n0 n1 n2
  have hsf := (Qr.tail_suf hr).length_le
  have hte := (Qr.tail_eats (r := r) (by rw [ht, h1]; simp)).2
  subst h1
  rw [show Qr.tx ⟨114, tt, tg⟩ = tt from rfl] at t1
  rw [show Qr.kR 114 = 1 from rfl] at t0
  have htok : Tx.valid tt = true ∧ tt.length ≤ 1000 := by
    have := h.ok (Qr.lk r) (hr.subset (Qr.lk_mem (by rw [ht]; simp)))
    rw [ht] at this
    exact this
  have hsz : (⟨tt.toArray⟩ : ByteArray).size ≤ 1000000 := by rw [Tx.size_mk]; omega
  obtain ⟨xs, hxs⟩ : ∃ xs, Qr.wordsB tt = xs := ⟨_, rfl⟩
  have HXS := Lib.hid hxs
  have hxl : xs.length ≤ 2000 := by
    rw [← hxs, Qr.wordsB_len]
    have := Tx.words_len htok.1
    omega
  have hop := Lib.hid (fun w => r21_anyOp_c ⟨114, tt, tg⟩ hleg w)
  rw [ha] at hop
  rw [show Qr.tx ⟨114, tt, tg⟩ = tt from rfl, show Qr.kR 114 = 1 from rfl] at hop
  have his := Lib.hid (fun w => r21_is_c ⟨nk, nt, ng⟩ hlegn 42 (by simp) w)
  obtain ⟨NX, hNX⟩ : ∃ X, Qr.tx ⟨nk, nt, ng⟩ = X := ⟨_, rfl⟩
  obtain ⟨NK, hNK⟩ : ∃ K, Qr.kR nk = K := ⟨_, rfl⟩
  rw [hNX] at n1 his
  rw [hNK] at n0 his
  simp only at his
  rw [hxs]
  have hl1 : xs.length = 1 := by rw [← hxs]; exact hl
  have hl1i : (xs.length : Int) = 1 := by omega
  rw [hk] at his
  have HTA := Lib.hid hta
  clear ht htok hta hn hNX hNK ha hlegn hxs hl hk
  obtain ⟨A, hA⟩ : ∃ A, toks.length - r.length = A := ⟨_, rfl⟩
  rw [hA] at t0 t1 t2 n0 n1 n2 ⊢
  have HA := Lib.hid hA
  have hA1 : A ≤ toks.length := by omega
  have HH := Lib.hid h; clear h
  have HLG := Lib.hid hleg; clear hleg
  obtain ⟨W, hW⟩ : ∃ W, (w.alloc (.cells Qr.zeroP 52)).alloc (.cells #[.int .i64 1, .string ⟨tt.toArray⟩, .bool tg] 55) = W := ⟨_, rfl⟩
  have hB : Below w.heap.size w W := by rw [← hW]; exact (Tx.newb _ _).alloc (Tx.newb w _).size _
  have KR : Hid (W.heap[w.heap.size]? = some (.cells Qr.zeroP 52 (0, 0))) := Lib.hid (by rw [← hW]; exact Tx.blk_later (heap_alloc_new w _) (Tx.newb _ _))
  have KT : Hid (W.heap[w.heap.size + 1]? = some (.cells #[.int .i64 1, .string ⟨tt.toArray⟩, .bool tg] 55 (0, 0))) := Lib.hid (by rw [← hW]; have := heap_alloc_new (w.alloc (.cells Qr.zeroP 52)) (.cells #[.int .i64 1, .string ⟨tt.toArray⟩, .bool tg] 55); rwa [World.size_alloc] at this)
  have x0 : W.cell? ⟨w.heap.size + 1, 0, none⟩ = some (.int .i64 1) := (Tx.blk KT.out).1 0
  have x1 : W.cell? ⟨w.heap.size + 1, 1, none⟩ = some (.string ⟨tt.toArray⟩) := (Tx.blk KT.out).1 1
  have x2 : W.cell? ⟨w.heap.size + 1, 2, none⟩ = some (.bool tg) := (Tx.blk KT.out).1 2
  have hs : W.heap.size = w.heap.size + 2 := by rw [← hW]; simp
  have N0 := Lib.hid n0; have N1 := Lib.hid n1; have N2 := Lib.hid n2
  clear n0 n1 n2
  have HL1 := Lib.hid hl1; clear hl1
  go_enter Tryz.func97, Tryz.ntmps97
  go_wp2_with (first
    | (go_at_call 89; refine (his.out _).mono ?_; rintro e w4 ⟨rfl, hb4⟩; have s4 := hb4.size; rw [World.size_alloc] at s4; replace KR := Lib.hid (Tx.blk_later KR.out hb4); replace KT := Lib.hid (Tx.blk_later KT.out hb4); replace KQ := Lib.hid (Tx.blk_later KQ.out hb4); have h4B : Below w.heap.size w w4 := (h3B.alloc h3B.size _).trans (hb4.mono (Nat.le_trans h3B.size (by simp))); have p2 := cell_later h4B N2.out; have yy : w4.cell? ⟨w.heap.size + 1, 0, none⟩ = some (.int .i64 1) := (Tx.blk KT.out).1 0; have z0 : w4.cell? ⟨w.heap.size, 0, none⟩ = some (.int .i64 0) := (Tx.blk KR.out).1 0; have z1 : w4.cell? ⟨w.heap.size, 1, none⟩ = some (.int .i64 0) := (Tx.blk KR.out).1 1; have z2 : w4.cell? ⟨w.heap.size, 2, none⟩ = some (.slice none 0 0) := (Tx.blk KR.out).1 2; have z3 : w4.cell? ⟨w.heap.size, 3, none⟩ = some (.int .i64 0) := (Tx.blk KR.out).1 3; have z4 : w4.cell? ⟨w.heap.size, 4, none⟩ = some (.int .i64 0) := (Tx.blk KR.out).1 4; have z5 : w4.cell? ⟨w.heap.size, 5, none⟩ = some (.slice none 0 0) := (Tx.blk KR.out).1 5; have z6 : w4.cell? ⟨w.heap.size, 6, none⟩ = some (.int .i64 0) := (Tx.blk KR.out).1 6; have z7 : w4.cell? ⟨w.heap.size, 7, none⟩ = some (.bool false) := (Tx.blk KR.out).1 7; have zf : ∀ i, w4.frozen? ⟨w.heap.size, i, none⟩ = false := (Tx.blk KR.out).2.1; have q0 : w4.cell? ⟨w3.heap.size, 0, none⟩ = some (.int .i64 3) := (Tx.blk KQ.out).1 0; have q1 : w4.cell? ⟨w3.heap.size, 1, none⟩ = some (.int .i64 f) := (Tx.blk KQ.out).1 1; have q2 : w4.cell? ⟨w3.heap.size, 2, none⟩ = some (.slice sa xs.length sc) := (Tx.blk KQ.out).1 2; have q3 : w4.cell? ⟨w3.heap.size, 3, none⟩ = some (.int .i64 0) := (Tx.blk KQ.out).1 3; have q4 : w4.cell? ⟨w3.heap.size, 4, none⟩ = some (.int .i64 0) := (Tx.blk KQ.out).1 4; have q5 : w4.cell? ⟨w3.heap.size, 5, none⟩ = some (.slice none 0 0) := (Tx.blk KQ.out).1 5; have qf : ∀ i, w4.frozen? ⟨w3.heap.size, i, none⟩ = false := (Tx.blk KQ.out).2.1)
    | (go_at_call 106; refine (r01_Words_c ⟨tt.toArray⟩ _ (by omega)).mono ?_; rintro e w3 ⟨v, rfl, hown, hb3⟩; obtain ⟨sa, sc, rfl, hSL, hLo⟩ := Qr.own_words2 (l := tt) hown; clear hown; rw [HXS.out] at hSL hLo ⊢; have s3 := hb3.size; replace KR := Lib.hid (Tx.blk_later KR.out hb3); replace KT := Lib.hid (Tx.blk_later KT.out hb3); have y0 : w3.cell? ⟨w.heap.size + 1, 0, none⟩ = some (.int .i64 1) := (Tx.blk KT.out).1 0; have HSL := Lib.hid hSL; have HLO := Lib.hid hLo; clear hSL hLo; have h3B : Below w.heap.size w w3 := hB.trans ((Tx.step hb2 hb3).mono hB.size); have kr3 := Tx.blk_later KR.out (Tx.newb w3 (.cells #[.int .i64 3, .int .i64 f, .slice sa xs.length sc, .int .i64 0, .int .i64 0, .slice none 0 0] 25)); replace KR := Lib.hid kr3; clear kr3; have kt3 := Tx.blk_later KT.out (Tx.newb w3 (.cells #[.int .i64 3, .int .i64 f, .slice sa xs.length sc, .int .i64 0, .int .i64 0, .slice none 0 0] 25)); replace KT := Lib.hid kt3; clear kt3; have yy0 : (w3.alloc (.cells #[.int .i64 3, .int .i64 f, .slice sa xs.length sc, .int .i64 0, .int .i64 0, .slice none 0 0] 25)).cell? ⟨w.heap.size + 1, 0, none⟩ = some (.int .i64 1) := (Tx.blk KT.out).1 0; have KQ := Lib.hid (heap_alloc_new w3 (.cells #[.int .i64 3, .int .i64 f, .slice sa xs.length sc, .int .i64 0, .int .i64 0, .slice none 0 0] 25)); have m0 := cell_later h3B N0.out; have m1 := cell_later h3B N1.out; have m2 := cell_later h3B N2.out; have hb3s : b < w3.heap.size := Nat.lt_of_lt_of_le hbl h3B.size)
    | (go_at_call 90; refine (hop.out _).mono ?_; rintro e w2 ⟨rfl, hb2⟩; replace KR := Lib.hid (Tx.blk_later KR.out hb2); replace KT := Lib.hid (Tx.blk_later KT.out hb2); have s2 := hb2.size; have e1 : w2.cell? ⟨w.heap.size + 1, 1, none⟩ = some (.string ⟨tt.toArray⟩) := (Tx.blk KT.out).1 1))
  have hP := Qr.put8 (Tx.put6 h4B (show w.heap.size ≤ w3.heap.size from h3B.size) (.int .i64 1) (.int .i64 f) (.slice sa xs.length sc) (.int .i64 0) (.int .i64 0) (.slice none 0 0)) (Nat.le_refl _) (.int .i64 1) (.int .i64 f) (.slice sa xs.length sc) (.int .i64 0) (.int .i64 0) (.slice none 0 0) (.int .i64 ((A : Int) + 1)) (.bool true)
  refine bodyPost_ret (v := .agg #[.int .i64 1, .int .i64 f, .slice sa xs.length sc, .int .i64 0, .int .i64 0, .slice none 0 0, .int .i64 ((A : Int) + 1), .bool true]) (by simp [results, Tryz.results97, go_sem, z0, z1, z2, z3, z4, z5, z6, z7]) rfl (Qr.RRes.mk_some (by rw [HTA.out, HA.out]; omega) (Qr.QC.of_kids (ws := xs) (ks := []) (Qr.Kp.sl2 HSL.out (fun h1 ad l c2 h9 => Nat.le_trans (by omega) (HLO.out h1 ad l c2 h9)) ((((((((Qr.Kp.below (Tx.newb w3 _)).trans (Qr.Kp.below hb4)).setN (p := ⟨w3.heap.size, 0, none⟩) (Nat.le_refl _) _).setN (p := ⟨w3.heap.size, 1, none⟩) (Nat.le_refl _) _).setN (p := ⟨w3.heap.size, 2, none⟩) (Nat.le_refl _) _).setN (p := ⟨w3.heap.size, 3, none⟩) (Nat.le_refl _) _).setN (p := ⟨w3.heap.size, 4, none⟩) (Nat.le_refl _) _).setN (p := ⟨w3.heap.size, 5, none⟩) (Nat.le_refl _) _ |>.put8 (M := w.heap.size + 1) (by omega) _ _ _ _ _ _ _ _)) (fun h1 ad l c2 h9 => Nat.le_trans (by omega) (HLO.out h1 ad l c2 h9)) (Qr.KA.nil _ _)) hP)

set_option maxHeartbeats 3200000 in
theorem pt_n0 (toks r : List Qr.Tok) (b o c : Nat) (f : Int) (w : World) (h : Qr.RT w toks b o c) (hr : r <:+ toks) (tk : UInt8) (tt : List UInt8) (tg : Bool) (ht : Qr.lk r = ⟨tk, tt, tg⟩) (h1 : tk = 114) (ha : Qr.anyOp ⟨tk, tt, tg⟩ = false) (nk : UInt8) (nt : List UInt8) (ng : Bool) (hn : Qr.lk r.tail = ⟨nk, nt, ng⟩) (hk : (nk == 42) = false) (hl : ¬ (Qr.wordsB tt).length = 1) (hx : Qr.wordsB tt ≠ []) :
    Calls Tryz.prog 97 #[.slice (some ⟨b, o, none⟩) (toks.length + 1) c, .int .i64 ((toks.length - r.length : Nat) : Int), .int .i64 f] w (Qr.RRes toks (some (.mk 3 f (Qr.wordsB tt) 0 0 [], r.tail)) w) := by
  have hleg := h.leg hr
  rw [ht] at hleg
  obtain ⟨t0, t1, t2⟩ := h.at_ r hr
  rw [ht] at t0 t1 t2
  simp only at t0 t1 t2
  have hrl := hr.length_le
  have hlen := h.len
  have hbl := h.lt
  have hcap := h.cap
  have hmax := h.max
  have hmx : maxLen = 9223372036854775807 := rfl
  have hta := Qr.tail_at hr (by rw [ht, h1]; simp)
  have hlegn := h.leg (Qr.tail_suf hr)
  rw [hn] at hlegn
  obtain ⟨n0, n1, n2⟩ := h.at_ r.tail (Qr.tail_suf hr)
  rw [hn, hta] at n0 n1 n2
  simp only at n0 n1 n2
  have hsf := (Qr.tail_suf hr).length_le
  have hte := (Qr.tail_eats (r := r) (by rw [ht, h1]; simp)).2
  subst h1
  rw [show Qr.tx ⟨114, tt, tg⟩ = tt from rfl] at t1
  rw [show Qr.kR 114 = 1 from rfl] at t0
  have htok : Tx.valid tt = true ∧ tt.length ≤ 1000 := by
    have := h.ok (Qr.lk r) (hr.subset (Qr.lk_mem (by rw [ht]; simp)))
    rw [ht] at this
    exact this
  have hsz : (⟨tt.toArray⟩ : ByteArray).size ≤ 1000000 := by rw [Tx.size_mk]; omega
  obtain ⟨xs, hxs⟩ : ∃ xs, Qr.wordsB tt = xs := ⟨_, rfl⟩
  have HXS := Lib.hid hxs
  have hxl : xs.length ≤ 2000 := by
    rw [← hxs, Qr.wordsB_len]
    have := Tx.words_len htok.1
    omega
  have hop := Lib.hid (fun w => r21_anyOp_c ⟨114, tt, tg⟩ hleg w)
  rw [ha] at hop
  rw [show Qr.tx ⟨114, tt, tg⟩ = tt from rfl, show Qr.kR 114 = 1 from rfl] at hop
  have his := Lib.hid (fun w => r21_is_c ⟨nk, nt, ng⟩ hlegn 42 (by simp) w)
  obtain ⟨NX, hNX⟩ : ∃ X, Qr.tx ⟨nk, nt, ng⟩ = X := ⟨_, rfl⟩
  obtain ⟨NK, hNK⟩ : ∃ K, Qr.kR nk = K := ⟨_, rfl⟩
  rw [hNX] at n1 his
  rw [hNK] at n0 his
  simp only at his
  rw [hxs]
  have hln : ¬ (xs.length : Int) = 1 := by rw [← hxs]; omega
  have hlb : ((xs.length : Int) == 1) = false := beq_eq_false_iff_ne.2 hln
  have hxne : ¬ (xs.length : Int) = 0 := by
    rw [hxs] at hx
    intro h9
    exact hx (List.eq_nil_of_length_eq_zero (by omega))
  rw [hk] at his
  have HTA := Lib.hid hta
  clear ht htok hta hn hNX hNK ha hlegn hxs hl hx hk
  obtain ⟨A, hA⟩ : ∃ A, toks.length - r.length = A := ⟨_, rfl⟩
  rw [hA] at t0 t1 t2 n0 n1 n2 ⊢
  have HA := Lib.hid hA
  have hA1 : A ≤ toks.length := by omega
  have HH := Lib.hid h; clear h
  have HLG := Lib.hid hleg; clear hleg
  obtain ⟨W, hW⟩ : ∃ W, (w.alloc (.cells Qr.zeroP 52)).alloc (.cells #[.int .i64 1, .string ⟨tt.toArray⟩, .bool tg] 55) = W := ⟨_, rfl⟩
  have hB : Below w.heap.size w W := by rw [← hW]; exact (Tx.newb _ _).alloc (Tx.newb w _).size _
  have KR : Hid (W.heap[w.heap.size]? = some (.cells Qr.zeroP 52 (0, 0))) := Lib.hid (by rw [← hW]; exact Tx.blk_later (heap_alloc_new w _) (Tx.newb _ _))
  have KT : Hid (W.heap[w.heap.size + 1]? = some (.cells #[.int .i64 1, .string ⟨tt.toArray⟩, .bool tg] 55 (0, 0))) := Lib.hid (by rw [← hW]; have := heap_alloc_new (w.alloc (.cells Qr.zeroP 52)) (.cells #[.int .i64 1, .string ⟨tt.toArray⟩, .bool tg] 55); rwa [World.size_alloc] at this)
  have x0 : W.cell? ⟨w.heap.size + 1, 0, none⟩ = some (.int .i64 1) := (Tx.blk KT.out).1 0
  have x1 : W.cell? ⟨w.heap.size + 1, 1, none⟩ = some (.string ⟨tt.toArray⟩) := (Tx.blk KT.out).1 1
  have x2 : W.cell? ⟨w.heap.size + 1, 2, none⟩ = some (.bool tg) := (Tx.blk KT.out).1 2
  have hs : W.heap.size = w.heap.size + 2 := by rw [← hW]; simp
  have N0 := Lib.hid n0; have N1 := Lib.hid n1; have N2 := Lib.hid n2
  clear n0 n1 n2
  go_enter Tryz.func97, Tryz.ntmps97
  go_wp2_with (first
    | (go_at_call 89; refine (his.out _).mono ?_; rintro e w4 ⟨rfl, hb4⟩; have s4 := hb4.size; rw [World.size_alloc] at s4; replace KR := Lib.hid (Tx.blk_later KR.out hb4); replace KT := Lib.hid (Tx.blk_later KT.out hb4); replace KQ := Lib.hid (Tx.blk_later KQ.out hb4); have h4B : Below w.heap.size w w4 := (h3B.alloc h3B.size _).trans (hb4.mono (Nat.le_trans h3B.size (by simp))); have p2 := cell_later h4B N2.out; have yy : w4.cell? ⟨w.heap.size + 1, 0, none⟩ = some (.int .i64 1) := (Tx.blk KT.out).1 0; have z0 : w4.cell? ⟨w.heap.size, 0, none⟩ = some (.int .i64 0) := (Tx.blk KR.out).1 0; have z1 : w4.cell? ⟨w.heap.size, 1, none⟩ = some (.int .i64 0) := (Tx.blk KR.out).1 1; have z2 : w4.cell? ⟨w.heap.size, 2, none⟩ = some (.slice none 0 0) := (Tx.blk KR.out).1 2; have z3 : w4.cell? ⟨w.heap.size, 3, none⟩ = some (.int .i64 0) := (Tx.blk KR.out).1 3; have z4 : w4.cell? ⟨w.heap.size, 4, none⟩ = some (.int .i64 0) := (Tx.blk KR.out).1 4; have z5 : w4.cell? ⟨w.heap.size, 5, none⟩ = some (.slice none 0 0) := (Tx.blk KR.out).1 5; have z6 : w4.cell? ⟨w.heap.size, 6, none⟩ = some (.int .i64 0) := (Tx.blk KR.out).1 6; have z7 : w4.cell? ⟨w.heap.size, 7, none⟩ = some (.bool false) := (Tx.blk KR.out).1 7; have zf : ∀ i, w4.frozen? ⟨w.heap.size, i, none⟩ = false := (Tx.blk KR.out).2.1; have q0 : w4.cell? ⟨w3.heap.size, 0, none⟩ = some (.int .i64 3) := (Tx.blk KQ.out).1 0; have q1 : w4.cell? ⟨w3.heap.size, 1, none⟩ = some (.int .i64 f) := (Tx.blk KQ.out).1 1; have q2 : w4.cell? ⟨w3.heap.size, 2, none⟩ = some (.slice sa xs.length sc) := (Tx.blk KQ.out).1 2; have q3 : w4.cell? ⟨w3.heap.size, 3, none⟩ = some (.int .i64 0) := (Tx.blk KQ.out).1 3; have q4 : w4.cell? ⟨w3.heap.size, 4, none⟩ = some (.int .i64 0) := (Tx.blk KQ.out).1 4; have q5 : w4.cell? ⟨w3.heap.size, 5, none⟩ = some (.slice none 0 0) := (Tx.blk KQ.out).1 5; have qf : ∀ i, w4.frozen? ⟨w3.heap.size, i, none⟩ = false := (Tx.blk KQ.out).2.1)
    | (go_at_call 106; refine (r01_Words_c ⟨tt.toArray⟩ _ (by omega)).mono ?_; rintro e w3 ⟨v, rfl, hown, hb3⟩; obtain ⟨sa, sc, rfl, hSL, hLo⟩ := Qr.own_words2 (l := tt) hown; clear hown; rw [HXS.out] at hSL hLo ⊢; have s3 := hb3.size; replace KR := Lib.hid (Tx.blk_later KR.out hb3); replace KT := Lib.hid (Tx.blk_later KT.out hb3); have y0 : w3.cell? ⟨w.heap.size + 1, 0, none⟩ = some (.int .i64 1) := (Tx.blk KT.out).1 0; have HSL := Lib.hid hSL; have HLO := Lib.hid hLo; clear hSL hLo; have h3B : Below w.heap.size w w3 := hB.trans ((Tx.step hb2 hb3).mono hB.size); have kr3 := Tx.blk_later KR.out (Tx.newb w3 (.cells #[.int .i64 3, .int .i64 f, .slice sa xs.length sc, .int .i64 0, .int .i64 0, .slice none 0 0] 25)); replace KR := Lib.hid kr3; clear kr3; have kt3 := Tx.blk_later KT.out (Tx.newb w3 (.cells #[.int .i64 3, .int .i64 f, .slice sa xs.length sc, .int .i64 0, .int .i64 0, .slice none 0 0] 25)); replace KT := Lib.hid kt3; clear kt3; have yy0 : (w3.alloc (.cells #[.int .i64 3, .int .i64 f, .slice sa xs.length sc, .int .i64 0, .int .i64 0, .slice none 0 0] 25)).cell? ⟨w.heap.size + 1, 0, none⟩ = some (.int .i64 1) := (Tx.blk KT.out).1 0; have KQ := Lib.hid (heap_alloc_new w3 (.cells #[.int .i64 3, .int .i64 f, .slice sa xs.length sc, .int .i64 0, .int .i64 0, .slice none 0 0] 25)); have m0 := cell_later h3B N0.out; have m1 := cell_later h3B N1.out; have m2 := cell_later h3B N2.out; have hb3s : b < w3.heap.size := Nat.lt_of_lt_of_le hbl h3B.size)
    | (go_at_call 90; refine (hop.out _).mono ?_; rintro e w2 ⟨rfl, hb2⟩; replace KR := Lib.hid (Tx.blk_later KR.out hb2); replace KT := Lib.hid (Tx.blk_later KT.out hb2); have s2 := hb2.size; have e1 : w2.cell? ⟨w.heap.size + 1, 1, none⟩ = some (.string ⟨tt.toArray⟩) := (Tx.blk KT.out).1 1))
  have hP := Qr.put8 h4B (Nat.le_refl _) (.int .i64 3) (.int .i64 f) (.slice sa xs.length sc) (.int .i64 0) (.int .i64 0) (.slice none 0 0) (.int .i64 ((A : Int) + 1)) (.bool true)
  refine bodyPost_ret (v := .agg #[.int .i64 3, .int .i64 f, .slice sa xs.length sc, .int .i64 0, .int .i64 0, .slice none 0 0, .int .i64 ((A : Int) + 1), .bool true]) (by simp [results, Tryz.results97, go_sem, z0, z1, z2, z3, z4, z5, z6, z7]) rfl (Qr.RRes.mk_some (by rw [HTA.out, HA.out]; omega) (Qr.QC.of_kids (ws := xs) (ks := []) (Qr.Kp.sl2 HSL.out (fun h1 ad l c2 h9 => Nat.le_trans (by omega) (HLO.out h1 ad l c2 h9)) (((Qr.Kp.below (Tx.newb w3 _)).trans (Qr.Kp.below hb4)).put8 (M := w.heap.size + 1) (by omega) _ _ _ _ _ _ _ _)) (fun h1 ad l c2 h9 => Nat.le_trans (by omega) (HLO.out h1 ad l c2 h9)) (Qr.KA.nil _ _)) hP)

end Go.Proofs.YtkahplbjbidemaaGreatDoor
