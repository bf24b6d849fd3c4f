/- The reference reads a primary: what the call returns. -/
import Derived.Test.YtkahplbjbidemaaGreatDoorQmF
namespace Go.Proofs.YtkahplbjbidemaaGreatDoor
open Go.RowKit
set_option maxRecDepth 100000

namespace Qr
theorem RRes.vals {toks : List Tok} {x : PR} {w w' : World} {e : Ending} (h : RRes toks x w e w') : ∃ o f a b sa sn sc ka kn kc n z, e = .returned (.agg #[.int .i64 o, .int .i64 f, .slice sa sn sc, .int .i64 a, .int .i64 b, .slice ka kn kc, .int .i64 n, .bool z]) ∧ Below w.heap.size w w' := by
  cases x with
  | none =>
    obtain ⟨o, f, a, b, sa, sn, sc, ka, kn, kc, n, h1, h2⟩ := h.bad
    exact ⟨o, f, a, b, sa, sn, sc, ka, kn, kc, n, false, h1, h2⟩
  | some p =>
    obtain ⟨q, r⟩ := p
    obtain ⟨o, f, a, b, sa, sn, sc, ka, kn, kc, h1, _, h2⟩ := h.get
    exact ⟨o, f, a, b, sa, sn, sc, ka, kn, kc, _, true, h1, h2⟩
/-- What was answered, handed on. -/
theorem RRes.carry {toks : List Tok} {x : PR} {w w1 w2 w9 : World} {e : Ending} (h : RRes toks x w1 e w2) (hw : w.heap.size ≤ w1.heap.size) (hB : Below w.heap.size w w9) (hK : Kp w1.heap.size w2 w9) : RRes toks x w e w9 := by
  cases x with
  | none =>
    obtain ⟨t, n, h1, _⟩ := h
    exact ⟨t, n, h1, hB⟩
  | some p =>
    obtain ⟨q, r⟩ := p
    obtain ⟨t, h1, h2, _⟩ := h
    exact ⟨t, h1, (h2.kp hK).mono hw, hB⟩
theorem pYears_no {r : List Tok} (h : word0 r = false) : pYears false r = none := by
  rw [pYears_eq]
  by_cases hk : (lk r).k = 114
  · rw [if_neg (by simp [hk])]
    unfold word0 anyOp at h
    rw [hk] at h
    simp only [Bool.or_eq_false_iff, Bool.and_eq_false_iff] at h
    have h2 : ((lk r).t = orB ∨ (lk r).t = andB ∨ (lk r).t = notB) := by
      rcases h.2 with h | h
      · exact absurd h (by decide)
      · have h3 : ¬ (lk r).t = orB → ¬ (lk r).t = andB → (lk r).t = notB := by simpa [or_assoc] using h
        by_cases a1 : (lk r).t = orB
        · exact .inl a1
        · by_cases a2 : (lk r).t = andB
          · exact .inr (.inl a2)
          · exact .inr (.inr (h3 a1 a2))
    have e : Sp.cut 45 (lk r).t = none := by rcases h2 with h2 | h2 | h2 <;> rw [h2] <;> decide
    rw [e]
  · rw [if_pos hk]
theorem pTerm_no {r : List Tok} {f : Int} (h : word0 r = false) : pTerm false f r = none := by unfold pTerm; rw [if_pos h]
end Qr

set_option maxHeartbeats 6400000 in
theorem pp_par_none (toks r : List Qr.Tok) (b o c n : Nat) (w : World) (h : Qr.RT w toks b o c) (hr : r <:+ toks) (tk : UInt8) (tt : List UInt8) (tg : Bool) (ht : Qr.lk r = ⟨tk, tt, tg⟩) (hSub : ∀ (r : List Qr.Tok) (w : World), 8 * r.length + 7 ≤ n → r <:+ toks → Qr.RT w toks b o c → Calls Tryz.prog 32 #[.slice (some ⟨b, o, none⟩) (toks.length + 1) c, .int .i64 ((toks.length - r.length : Nat) : Int)] w (Qr.RRes toks (Qr.pOr false n r) w)) (hn : 8 * r.length + 4 ≤ n + 1) (hk : tk = 40) (hx : Qr.pOr false n r.tail = none) :
    Calls Tryz.prog 88 #[.slice (some ⟨b, o, none⟩) (toks.length + 1) c, .int .i64 ((toks.length - r.length : Nat) : Int)] w (Qr.RRes toks (none) w) := by
  have hleg := h.leg hr
  rw [ht] at hleg
  obtain ⟨t0, t1, t2⟩ := h.at_ r hr
  rw [ht] at t0 t1 t2
  simp only at t0 t1 t2
  have hrl := hr.length_le
  have hlen := h.len
  have hbl := h.lt
  have hcap := h.cap
  have hmax := h.max
  have hmx : maxLen = 9223372036854775807 := rfl
  have his := Lib.hid (fun w => r21_is_c ⟨tk, tt, tg⟩ hleg 40 (by simp) w)
  have hst := Lib.hid (fun w => r21_starts_c ⟨tk, tt, tg⟩ hleg w)
  simp only at his hst
  have hta := Qr.tail_at hr (by rw [ht, hk]; simp)
  have hte := (Qr.tail_eats (r := r) (by rw [ht, hk]; simp)).2
  have hsub := fun w h => hSub r.tail w (by omega) (Qr.tail_suf hr) h
  rw [hta, hx, show ((toks.length - r.length + 1 : Nat) : Int) = ((toks.length - r.length : Nat) : Int) + 1 by omega] at hsub
  rw [show (tk == 40) = true by rw [hk]; rfl] at his
  obtain ⟨A, hA⟩ : ∃ A, toks.length - r.length = A := ⟨_, rfl⟩
  rw [hA] at t0 t1 t2 hsub ⊢
  have HA := Lib.hid hA
  have hA1 : A ≤ toks.length := by omega
  obtain ⟨X, hX⟩ : ∃ X : ByteArray, (⟨(Qr.tx ⟨tk, tt, tg⟩).toArray⟩ : ByteArray) = X := ⟨_, rfl⟩
  obtain ⟨K, hK⟩ : ∃ K, Qr.kR tk = K := ⟨_, rfl⟩
  rw [hX] at t1 his hst
  rw [hK] at t0 his hst
  have HH := Lib.hid h
  have T0 := Lib.hid t0; have T1 := Lib.hid t1; have T2 := Lib.hid t2
  have HSUB := Lib.hid hsub
  clear hX hK ht hk hx hleg hta hsub hA hSub hst
  clear t0 t1 t2 h
  obtain ⟨W, hW⟩ : ∃ W, w.alloc (.cells Qr.zeroP 52) = W := ⟨_, rfl⟩
  have hB : Below w.heap.size w W := by rw [← hW]; exact Tx.newb _ _
  have hs1 : W.heap.size = w.heap.size + 1 := by rw [← hW]; simp
  have HS1 := Lib.hid hs1; clear hs1
  have KR : Hid (W.heap[w.heap.size]? = some (.cells Qr.zeroP 52 (0, 0))) := Lib.hid (by rw [← hW]; exact heap_alloc_new w _)
  have t0_1 := cell_later hB T0.out
  have t1_1 := cell_later hB T1.out
  have t2_1 := cell_later hB T2.out
  go_enter Tryz.func88, Tryz.ntmps88
  go_wp2_with (first
    | (go_at_call 32; ((with_reducible refine (HSUB.out _ (HH.out.below k2)).mono ?_); rintro e w3 hh; obtain ⟨po, pf, pa, pb, psa, psn, psc, pka, pkn, pkc, pn, rfl, hb3⟩ := hh.bad; clear hh; have k3 := Tx.step k2 hb3; replace KR := Lib.hid (Tx.blk_later KR.out hb3); have k4 : Below w.heap.size w (w3.alloc (.cells #[.int .i64 po, .int .i64 pf, .slice psa psn psc, .int .i64 pa, .int .i64 pb, .slice pka pkn pkc, .int .i64 pn, .bool false] 52)) := k3.alloc k3.size _; replace KR := Lib.hid (Tx.blk_later KR.out (Tx.newb w3 (.cells #[.int .i64 po, .int .i64 pf, .slice psa psn psc, .int .i64 pa, .int .i64 pb, .slice pka pkn pkc, .int .i64 pn, .bool false] 52))); have z0 : (w3.alloc (.cells #[.int .i64 po, .int .i64 pf, .slice psa psn psc, .int .i64 pa, .int .i64 pb, .slice pka pkn pkc, .int .i64 pn, .bool false] 52)).cell? ⟨w.heap.size, 0, none⟩ = some (.int .i64 0) := (Tx.blk KR.out).1 0; have z1 : (w3.alloc (.cells #[.int .i64 po, .int .i64 pf, .slice psa psn psc, .int .i64 pa, .int .i64 pb, .slice pka pkn pkc, .int .i64 pn, .bool false] 52)).cell? ⟨w.heap.size, 1, none⟩ = some (.int .i64 0) := (Tx.blk KR.out).1 1; have z2 : (w3.alloc (.cells #[.int .i64 po, .int .i64 pf, .slice psa psn psc, .int .i64 pa, .int .i64 pb, .slice pka pkn pkc, .int .i64 pn, .bool false] 52)).cell? ⟨w.heap.size, 2, none⟩ = some (.slice none 0 0) := (Tx.blk KR.out).1 2; have z3 : (w3.alloc (.cells #[.int .i64 po, .int .i64 pf, .slice psa psn psc, .int .i64 pa, .int .i64 pb, .slice pka pkn pkc, .int .i64 pn, .bool false] 52)).cell? ⟨w.heap.size, 3, none⟩ = some (.int .i64 0) := (Tx.blk KR.out).1 3; have z4 : (w3.alloc (.cells #[.int .i64 po, .int .i64 pf, .slice psa psn psc, .int .i64 pa, .int .i64 pb, .slice pka pkn pkc, .int .i64 pn, .bool false] 52)).cell? ⟨w.heap.size, 4, none⟩ = some (.int .i64 0) := (Tx.blk KR.out).1 4; have z5 : (w3.alloc (.cells #[.int .i64 po, .int .i64 pf, .slice psa psn psc, .int .i64 pa, .int .i64 pb, .slice pka pkn pkc, .int .i64 pn, .bool false] 52)).cell? ⟨w.heap.size, 5, none⟩ = some (.slice none 0 0) := (Tx.blk KR.out).1 5; have z6 : (w3.alloc (.cells #[.int .i64 po, .int .i64 pf, .slice psa psn psc, .int .i64 pa, .int .i64 pb, .slice pka pkn pkc, .int .i64 pn, .bool false] 52)).cell? ⟨w.heap.size, 6, none⟩ = some (.int .i64 0) := (Tx.blk KR.out).1 6; have z7 : (w3.alloc (.cells #[.int .i64 po, .int .i64 pf, .slice psa psn psc, .int .i64 pa, .int .i64 pb, .slice pka pkn pkc, .int .i64 pn, .bool false] 52)).cell? ⟨w.heap.size, 7, none⟩ = some (.bool false) := (Tx.blk KR.out).1 7; have zf : ∀ i, (w3.alloc (.cells #[.int .i64 po, .int .i64 pf, .slice psa psn psc, .int .i64 pa, .int .i64 pb, .slice pka pkn pkc, .int .i64 pn, .bool false] 52)).frozen? ⟨w.heap.size, i, none⟩ = false := (Tx.blk KR.out).2.1))
    | (go_at_call 89; ((with_reducible refine (his.out _).mono ?_); rintro e w2 ⟨rfl, hb2⟩; have k2 := Tx.step hB hb2; replace KR := Lib.hid (Tx.blk_later KR.out hb2); have t0_2 := cell_later k2 T0.out; have t1_2 := cell_later k2 T1.out; have t2_2 := cell_later k2 T2.out)))
  exact bodyPost_ret (v := .agg #[.int .i64 0, .int .i64 0, .slice none 0 0, .int .i64 0, .int .i64 0, .slice none 0 0, .int .i64 0, .bool false]) (by simp [results, Tryz.results88, go_sem, z0, z1, z2, z3, z4, z5, z6, z7]) rfl (Qr.RRes.mk_none (Qr.put8 k4 (Nat.le_refl _) _ _ _ _ _ _ _ _))

set_option maxHeartbeats 6400000 in
theorem pp_par_open (toks r : List Qr.Tok) (b o c n : Nat) (w : World) (h : Qr.RT w toks b o c) (hr : r <:+ toks) (tk : UInt8) (tt : List UInt8) (tg : Bool) (ht : Qr.lk r = ⟨tk, tt, tg⟩) (hSub : ∀ (r : List Qr.Tok) (w : World), 8 * r.length + 7 ≤ n → r <:+ toks → Qr.RT w toks b o c → Calls Tryz.prog 32 #[.slice (some ⟨b, o, none⟩) (toks.length + 1) c, .int .i64 ((toks.length - r.length : Nat) : Int)] w (Qr.RRes toks (Qr.pOr false n r) w)) (hn : 8 * r.length + 4 ≤ n + 1) (hk : tk = 40) (q : Qr.Qy) (r' : List Qr.Tok) (hx : Qr.pOr false n r.tail = some (q, r')) (hc : (Qr.lk r').k ≠ 41) :
    Calls Tryz.prog 88 #[.slice (some ⟨b, o, none⟩) (toks.length + 1) c, .int .i64 ((toks.length - r.length : Nat) : Int)] w (Qr.RRes toks (none) w) := by
  have hleg := h.leg hr
  rw [ht] at hleg
  obtain ⟨t0, t1, t2⟩ := h.at_ r hr
  rw [ht] at t0 t1 t2
  simp only at t0 t1 t2
  have hrl := hr.length_le
  have hlen := h.len
  have hbl := h.lt
  have hcap := h.cap
  have hmax := h.max
  have hmx : maxLen = 9223372036854775807 := rfl
  have his := Lib.hid (fun w => r21_is_c ⟨tk, tt, tg⟩ hleg 40 (by simp) w)
  have hst := Lib.hid (fun w => r21_starts_c ⟨tk, tt, tg⟩ hleg w)
  simp only at his hst
  have hta := Qr.tail_at hr (by rw [ht, hk]; simp)
  have hte := (Qr.tail_eats (r := r) (by rw [ht, hk]; simp)).2
  have hsub := fun w h => hSub r.tail w (by omega) (Qr.tail_suf hr) h
  rw [hta, hx, show ((toks.length - r.length + 1 : Nat) : Int) = ((toks.length - r.length : Nat) : Int) + 1 by omega] at hsub
  have hsuf := ((Qr.eats_all false n).1 _ _ _ hx).1.trans (Qr.tail_suf hr)
  have hlegc := h.leg hsuf
  have hisc := Lib.hid (fun w => r21_is_c (Qr.lk r') hlegc 41 (by simp) w)
  have hcl := hsuf.length_le
  obtain ⟨A2, hA2⟩ : ∃ A, toks.length - r'.length = A := ⟨_, rfl⟩
  obtain ⟨c0, c1, c2⟩ := h.at_ r' hsuf
  rw [hA2] at c0 c1 c2
  obtain ⟨CX, hCX⟩ : ∃ X : ByteArray, (⟨(Qr.tx (Qr.lk r')).toArray⟩ : ByteArray) = X := ⟨_, rfl⟩
  obtain ⟨CK, hCK⟩ : ∃ K, Qr.kR (Qr.lk r').k = K := ⟨_, rfl⟩
  obtain ⟨CG, hCG⟩ : ∃ K, (Qr.lk r').g = K := ⟨_, rfl⟩
  rw [hCX, hCK, hCG] at hisc
  rw [hCX] at c1
  rw [hCK] at c0
  rw [hCG] at c2
  have hA2l : A2 ≤ toks.length := by omega
  have C0 := Lib.hid c0; have C1 := Lib.hid c1; have C2 := Lib.hid c2
  have HA2 := Lib.hid hA2
  rw [show ((Qr.lk r').k == 41) = false from beq_eq_false_iff_ne.2 hc] at hisc
  clear c0 c1 c2 hCX hCK hCG hc hlegc hsuf hA2
  rw [show (tk == 40) = true by rw [hk]; rfl] at his
  obtain ⟨A, hA⟩ : ∃ A, toks.length - r.length = A := ⟨_, rfl⟩
  rw [hA] at t0 t1 t2 hsub ⊢
  have HA := Lib.hid hA
  have hA1 : A ≤ toks.length := by omega
  obtain ⟨X, hX⟩ : ∃ X : ByteArray, (⟨(Qr.tx ⟨tk, tt, tg⟩).toArray⟩ : ByteArray) = X := ⟨_, rfl⟩
  obtain ⟨K, hK⟩ : ∃ K, Qr.kR tk = K := ⟨_, rfl⟩
  rw [hX] at t1 his hst
  rw [hK] at t0 his hst
  have HH := Lib.hid h
  have T0 := Lib.hid t0; have T1 := Lib.hid t1; have T2 := Lib.hid t2
  have HSUB := Lib.hid hsub
  clear hX hK ht hk hx hleg hta hsub hA hSub hst
  clear t0 t1 t2 h
  obtain ⟨W, hW⟩ : ∃ W, w.alloc (.cells Qr.zeroP 52) = W := ⟨_, rfl⟩
  have hB : Below w.heap.size w W := by rw [← hW]; exact Tx.newb _ _
  have hs1 : W.heap.size = w.heap.size + 1 := by rw [← hW]; simp
  have HS1 := Lib.hid hs1; clear hs1
  have KR : Hid (W.heap[w.heap.size]? = some (.cells Qr.zeroP 52 (0, 0))) := Lib.hid (by rw [← hW]; exact heap_alloc_new w _)
  have t0_1 := cell_later hB T0.out
  have t1_1 := cell_later hB T1.out
  have t2_1 := cell_later hB T2.out
  go_enter Tryz.func88, Tryz.ntmps88
  go_wp2_with (first
    | (go_at_call 89; ((with_reducible refine (hisc.out (w3.alloc (.cells #[.int .i64 po, .int .i64 pf, .slice psa psn psc, .int .i64 pa, .int .i64 pb, .slice pka pkn pkc, .int .i64 (A2 : Int), .bool true] 52))).mono ?_); rintro e w5 ⟨rfl, hb5⟩; have k5 := Tx.step k4 hb5; replace KR := Lib.hid (Tx.blk_later KR.out hb5); replace KP := Lib.hid (Tx.blk_later KP.out hb5); have z0 : w5.cell? ⟨w.heap.size, 0, none⟩ = some (.int .i64 0) := (Tx.blk KR.out).1 0; have z1 : w5.cell? ⟨w.heap.size, 1, none⟩ = some (.int .i64 0) := (Tx.blk KR.out).1 1; have z2 : w5.cell? ⟨w.heap.size, 2, none⟩ = some (.slice none 0 0) := (Tx.blk KR.out).1 2; have z3 : w5.cell? ⟨w.heap.size, 3, none⟩ = some (.int .i64 0) := (Tx.blk KR.out).1 3; have z4 : w5.cell? ⟨w.heap.size, 4, none⟩ = some (.int .i64 0) := (Tx.blk KR.out).1 4; have z5 : w5.cell? ⟨w.heap.size, 5, none⟩ = some (.slice none 0 0) := (Tx.blk KR.out).1 5; have z6 : w5.cell? ⟨w.heap.size, 6, none⟩ = some (.int .i64 0) := (Tx.blk KR.out).1 6; have z7 : w5.cell? ⟨w.heap.size, 7, none⟩ = some (.bool false) := (Tx.blk KR.out).1 7; have zf : ∀ i, w5.frozen? ⟨w.heap.size, i, none⟩ = false := (Tx.blk KR.out).2.1; have p0 : w5.cell? ⟨w3.heap.size, 0, none⟩ = some (.int .i64 po) := (Tx.blk KP.out).1 0; have p1 : w5.cell? ⟨w3.heap.size, 1, none⟩ = some (.int .i64 pf) := (Tx.blk KP.out).1 1; have p2 : w5.cell? ⟨w3.heap.size, 2, none⟩ = some (.slice psa psn psc) := (Tx.blk KP.out).1 2; have p3 : w5.cell? ⟨w3.heap.size, 3, none⟩ = some (.int .i64 pa) := (Tx.blk KP.out).1 3; have p4 : w5.cell? ⟨w3.heap.size, 4, none⟩ = some (.int .i64 pb) := (Tx.blk KP.out).1 4; have p5 : w5.cell? ⟨w3.heap.size, 5, none⟩ = some (.slice pka pkn pkc) := (Tx.blk KP.out).1 5; have p6 : w5.cell? ⟨w3.heap.size, 6, none⟩ = some (.int .i64 (A2 : Int)) := (Tx.blk KP.out).1 6; have p7 : w5.cell? ⟨w3.heap.size, 7, none⟩ = some (.bool true) := (Tx.blk KP.out).1 7))
    | (go_at_call 32; ((with_reducible refine (HSUB.out _ (HH.out.below k2)).mono ?_); rintro e w3 hh; obtain ⟨po, pf, pa, pb, psa, psn, psc, pka, pkn, pkc, rfl, hq3, hb3⟩ := hh.get; clear hh; rw [HA2.out]; have k3 := Tx.step k2 hb3; replace KR := Lib.hid (Tx.blk_later KR.out hb3); have k4 : Below w.heap.size w (w3.alloc (.cells #[.int .i64 po, .int .i64 pf, .slice psa psn psc, .int .i64 pa, .int .i64 pb, .slice pka pkn pkc, .int .i64 (A2 : Int), .bool true] 52)) := k3.alloc k3.size _; replace KR := Lib.hid (Tx.blk_later KR.out (Tx.newb w3 (.cells #[.int .i64 po, .int .i64 pf, .slice psa psn psc, .int .i64 pa, .int .i64 pb, .slice pka pkn pkc, .int .i64 (A2 : Int), .bool true] 52))); have KP := Lib.hid (heap_alloc_new w3 (.cells #[.int .i64 po, .int .i64 pf, .slice psa psn psc, .int .i64 pa, .int .i64 pb, .slice pka pkn pkc, .int .i64 (A2 : Int), .bool true] 52)); have c0_4 := cell_later k4 C0.out; have c1_4 := cell_later k4 C1.out; have c2_4 := cell_later k4 C2.out; have HQ3 := Lib.hid hq3; clear hq3; have hs2 := hb2.size))
    | (go_at_call 89; ((with_reducible refine (his.out _).mono ?_); rintro e w2 ⟨rfl, hb2⟩; have k2 := Tx.step hB hb2; replace KR := Lib.hid (Tx.blk_later KR.out hb2); have t0_2 := cell_later k2 T0.out; have t1_2 := cell_later k2 T1.out; have t2_2 := cell_later k2 T2.out)))
  exact bodyPost_ret (v := .agg #[.int .i64 0, .int .i64 0, .slice none 0 0, .int .i64 0, .int .i64 0, .slice none 0 0, .int .i64 0, .bool false]) (by simp [results, Tryz.results88, go_sem, z0, z1, z2, z3, z4, z5, z6, z7]) rfl (Qr.RRes.mk_none (Qr.put8 k5 (Nat.le_refl _) _ _ _ _ _ _ _ _))

set_option maxHeartbeats 6400000 in
theorem pp_par_ok (toks r : List Qr.Tok) (b o c n : Nat) (w : World) (h : Qr.RT w toks b o c) (hr : r <:+ toks) (tk : UInt8) (tt : List UInt8) (tg : Bool) (ht : Qr.lk r = ⟨tk, tt, tg⟩) (hSub : ∀ (r : List Qr.Tok) (w : World), 8 * r.length + 7 ≤ n → r <:+ toks → Qr.RT w toks b o c → Calls Tryz.prog 32 #[.slice (some ⟨b, o, none⟩) (toks.length + 1) c, .int .i64 ((toks.length - r.length : Nat) : Int)] w (Qr.RRes toks (Qr.pOr false n r) w)) (hn : 8 * r.length + 4 ≤ n + 1) (hk : tk = 40) (q : Qr.Qy) (r' : List Qr.Tok) (hx : Qr.pOr false n r.tail = some (q, r')) (hc : (Qr.lk r').k = 41) :
    Calls Tryz.prog 88 #[.slice (some ⟨b, o, none⟩) (toks.length + 1) c, .int .i64 ((toks.length - r.length : Nat) : Int)] w (Qr.RRes toks (some (q, r'.tail)) w) := by
  have hleg := h.leg hr
  rw [ht] at hleg
  obtain ⟨t0, t1, t2⟩ := h.at_ r hr
  rw [ht] at t0 t1 t2
  simp only at t0 t1 t2
  have hrl := hr.length_le
  have hlen := h.len
  have hbl := h.lt
  have hcap := h.cap
  have hmax := h.max
  have hmx : maxLen = 9223372036854775807 := rfl
  have his := Lib.hid (fun w => r21_is_c ⟨tk, tt, tg⟩ hleg 40 (by simp) w)
  have hst := Lib.hid (fun w => r21_starts_c ⟨tk, tt, tg⟩ hleg w)
  simp only at his hst
  have hta := Qr.tail_at hr (by rw [ht, hk]; simp)
  have hte := (Qr.tail_eats (r := r) (by rw [ht, hk]; simp)).2
  have hsub := fun w h => hSub r.tail w (by omega) (Qr.tail_suf hr) h
  rw [hta, hx, show ((toks.length - r.length + 1 : Nat) : Int) = ((toks.length - r.length : Nat) : Int) + 1 by omega] at hsub
  have hsuf := ((Qr.eats_all false n).1 _ _ _ hx).1.trans (Qr.tail_suf hr)
  have hlegc := h.leg hsuf
  have hisc := Lib.hid (fun w => r21_is_c (Qr.lk r') hlegc 41 (by simp) w)
  have hcl := hsuf.length_le
  obtain ⟨A2, hA2⟩ : ∃ A, toks.length - r'.length = A := ⟨_, rfl⟩
  obtain ⟨c0, c1, c2⟩ := h.at_ r' hsuf
  rw [hA2] at c0 c1 c2
  obtain ⟨CX, hCX⟩ : ∃ X : ByteArray, (⟨(Qr.tx (Qr.lk r')).toArray⟩ : ByteArray) = X := ⟨_, rfl⟩
  obtain ⟨CK, hCK⟩ : ∃ K, Qr.kR (Qr.lk r').k = K := ⟨_, rfl⟩
  obtain ⟨CG, hCG⟩ : ∃ K, (Qr.lk r').g = K := ⟨_, rfl⟩
  rw [hCX, hCK, hCG] at hisc
  rw [hCX] at c1
  rw [hCK] at c0
  rw [hCG] at c2
  have hA2l : A2 ≤ toks.length := by omega
  have C0 := Lib.hid c0; have C1 := Lib.hid c1; have C2 := Lib.hid c2
  have HA2 := Lib.hid hA2
  rw [show ((Qr.lk r').k == 41) = true by rw [hc]; rfl] at hisc
  have htc := Qr.tail_at hsuf (by rw [hc]; simp)
  have HTC := Lib.hid htc; clear htc
  clear c0 c1 c2 hCX hCK hCG hc hlegc hsuf hA2
  rw [show (tk == 40) = true by rw [hk]; rfl] at his
  obtain ⟨A, hA⟩ : ∃ A, toks.length - r.length = A := ⟨_, rfl⟩
  rw [hA] at t0 t1 t2 hsub ⊢
  have HA := Lib.hid hA
  have hA1 : A ≤ toks.length := by omega
  obtain ⟨X, hX⟩ : ∃ X : ByteArray, (⟨(Qr.tx ⟨tk, tt, tg⟩).toArray⟩ : ByteArray) = X := ⟨_, rfl⟩
  obtain ⟨K, hK⟩ : ∃ K, Qr.kR tk = K := ⟨_, rfl⟩
  rw [hX] at t1 his hst
  rw [hK] at t0 his hst
  have HH := Lib.hid h
  have T0 := Lib.hid t0; have T1 := Lib.hid t1; have T2 := Lib.hid t2
  have HSUB := Lib.hid hsub
  clear hX hK ht hk hx hleg hta hsub hA hSub hst
  clear t0 t1 t2 h
  obtain ⟨W, hW⟩ : ∃ W, w.alloc (.cells Qr.zeroP 52) = W := ⟨_, rfl⟩
  have hB : Below w.heap.size w W := by rw [← hW]; exact Tx.newb _ _
  have hs1 : W.heap.size = w.heap.size + 1 := by rw [← hW]; simp
  have HS1 := Lib.hid hs1; clear hs1
  have KR : Hid (W.heap[w.heap.size]? = some (.cells Qr.zeroP 52 (0, 0))) := Lib.hid (by rw [← hW]; exact heap_alloc_new w _)
  have t0_1 := cell_later hB T0.out
  have t1_1 := cell_later hB T1.out
  have t2_1 := cell_later hB T2.out
  go_enter Tryz.func88, Tryz.ntmps88
  go_wp2_with (first
    | (go_at_call 89; ((with_reducible refine (hisc.out (w3.alloc (.cells #[.int .i64 po, .int .i64 pf, .slice psa psn psc, .int .i64 pa, .int .i64 pb, .slice pka pkn pkc, .int .i64 (A2 : Int), .bool true] 52))).mono ?_); rintro e w5 ⟨rfl, hb5⟩; have k5 := Tx.step k4 hb5; replace KR := Lib.hid (Tx.blk_later KR.out hb5); replace KP := Lib.hid (Tx.blk_later KP.out hb5); have z0 : w5.cell? ⟨w.heap.size, 0, none⟩ = some (.int .i64 0) := (Tx.blk KR.out).1 0; have z1 : w5.cell? ⟨w.heap.size, 1, none⟩ = some (.int .i64 0) := (Tx.blk KR.out).1 1; have z2 : w5.cell? ⟨w.heap.size, 2, none⟩ = some (.slice none 0 0) := (Tx.blk KR.out).1 2; have z3 : w5.cell? ⟨w.heap.size, 3, none⟩ = some (.int .i64 0) := (Tx.blk KR.out).1 3; have z4 : w5.cell? ⟨w.heap.size, 4, none⟩ = some (.int .i64 0) := (Tx.blk KR.out).1 4; have z5 : w5.cell? ⟨w.heap.size, 5, none⟩ = some (.slice none 0 0) := (Tx.blk KR.out).1 5; have z6 : w5.cell? ⟨w.heap.size, 6, none⟩ = some (.int .i64 0) := (Tx.blk KR.out).1 6; have z7 : w5.cell? ⟨w.heap.size, 7, none⟩ = some (.bool false) := (Tx.blk KR.out).1 7; have zf : ∀ i, w5.frozen? ⟨w.heap.size, i, none⟩ = false := (Tx.blk KR.out).2.1; have p0 : w5.cell? ⟨w3.heap.size, 0, none⟩ = some (.int .i64 po) := (Tx.blk KP.out).1 0; have p1 : w5.cell? ⟨w3.heap.size, 1, none⟩ = some (.int .i64 pf) := (Tx.blk KP.out).1 1; have p2 : w5.cell? ⟨w3.heap.size, 2, none⟩ = some (.slice psa psn psc) := (Tx.blk KP.out).1 2; have p3 : w5.cell? ⟨w3.heap.size, 3, none⟩ = some (.int .i64 pa) := (Tx.blk KP.out).1 3; have p4 : w5.cell? ⟨w3.heap.size, 4, none⟩ = some (.int .i64 pb) := (Tx.blk KP.out).1 4; have p5 : w5.cell? ⟨w3.heap.size, 5, none⟩ = some (.slice pka pkn pkc) := (Tx.blk KP.out).1 5; have p6 : w5.cell? ⟨w3.heap.size, 6, none⟩ = some (.int .i64 (A2 : Int)) := (Tx.blk KP.out).1 6; have p7 : w5.cell? ⟨w3.heap.size, 7, none⟩ = some (.bool true) := (Tx.blk KP.out).1 7))
    | (go_at_call 32; ((with_reducible refine (HSUB.out _ (HH.out.below k2)).mono ?_); rintro e w3 hh; obtain ⟨po, pf, pa, pb, psa, psn, psc, pka, pkn, pkc, rfl, hq3, hb3⟩ := hh.get; clear hh; rw [HA2.out]; have k3 := Tx.step k2 hb3; replace KR := Lib.hid (Tx.blk_later KR.out hb3); have k4 : Below w.heap.size w (w3.alloc (.cells #[.int .i64 po, .int .i64 pf, .slice psa psn psc, .int .i64 pa, .int .i64 pb, .slice pka pkn pkc, .int .i64 (A2 : Int), .bool true] 52)) := k3.alloc k3.size _; replace KR := Lib.hid (Tx.blk_later KR.out (Tx.newb w3 (.cells #[.int .i64 po, .int .i64 pf, .slice psa psn psc, .int .i64 pa, .int .i64 pb, .slice pka pkn pkc, .int .i64 (A2 : Int), .bool true] 52))); have KP := Lib.hid (heap_alloc_new w3 (.cells #[.int .i64 po, .int .i64 pf, .slice psa psn psc, .int .i64 pa, .int .i64 pb, .slice pka pkn pkc, .int .i64 (A2 : Int), .bool true] 52)); have c0_4 := cell_later k4 C0.out; have c1_4 := cell_later k4 C1.out; have c2_4 := cell_later k4 C2.out; have HQ3 := Lib.hid hq3; clear hq3; have hs2 := hb2.size))
    | (go_at_call 89; ((with_reducible refine (his.out _).mono ?_); rintro e w2 ⟨rfl, hb2⟩; have k2 := Tx.step hB hb2; replace KR := Lib.hid (Tx.blk_later KR.out hb2); have t0_2 := cell_later k2 T0.out; have t1_2 := cell_later k2 T1.out; have t2_2 := cell_later k2 T2.out)))
  exact bodyPost_ret (v := .agg #[.int .i64 po, .int .i64 pf, .slice psa psn psc, .int .i64 pa, .int .i64 pb, .slice pka pkn pkc, .int .i64 ((A2 : Int) + 1), .bool true]) (by simp [results, Tryz.results88, go_sem, z0, z1, z2, z3, z4, z5, z6, z7]) rfl (Qr.RRes.mk_some (by rw [HTC.out, HA2.out]; omega) ((HQ3.out.kp (((Qr.Kp.below (Tx.newb w3 _)).trans (Qr.Kp.below hb5)).put8 (by have := HS1.out; omega) _ _ _ _ _ _ _ _)).mono (by have := HS1.out; omega)) (Qr.put8 k5 (Nat.le_refl _) _ _ _ _ _ _ _ _))

set_option maxHeartbeats 6400000 in
theorem pp_nobeg (toks r : List Qr.Tok) (b o c : Nat) (w : World) (h : Qr.RT w toks b o c) (hr : r <:+ toks) (tk : UInt8) (tt : List UInt8) (tg : Bool) (ht : Qr.lk r = ⟨tk, tt, tg⟩) (hk : tk ≠ 40) (hw : Qr.beg ⟨tk, tt, tg⟩ = false) :
    Calls Tryz.prog 88 #[.slice (some ⟨b, o, none⟩) (toks.length + 1) c, .int .i64 ((toks.length - r.length : Nat) : Int)] w (Qr.RRes toks (none) w) := by
  have hleg := h.leg hr
  rw [ht] at hleg
  obtain ⟨t0, t1, t2⟩ := h.at_ r hr
  rw [ht] at t0 t1 t2
  simp only at t0 t1 t2
  have hrl := hr.length_le
  have hlen := h.len
  have hbl := h.lt
  have hcap := h.cap
  have hmax := h.max
  have hmx : maxLen = 9223372036854775807 := rfl
  have his := Lib.hid (fun w => r21_is_c ⟨tk, tt, tg⟩ hleg 40 (by simp) w)
  have hst := Lib.hid (fun w => r21_starts_c ⟨tk, tt, tg⟩ hleg w)
  simp only at his hst
  rw [show (tk == 40) = false from beq_eq_false_iff_ne.2 hk] at his
  rw [hw] at hst
  obtain ⟨A, hA⟩ : ∃ A, toks.length - r.length = A := ⟨_, rfl⟩
  rw [hA] at t0 t1 t2 ⊢
  have HA := Lib.hid hA
  have hA1 : A ≤ toks.length := by omega
  obtain ⟨X, hX⟩ : ∃ X : ByteArray, (⟨(Qr.tx ⟨tk, tt, tg⟩).toArray⟩ : ByteArray) = X := ⟨_, rfl⟩
  obtain ⟨K, hK⟩ : ∃ K, Qr.kR tk = K := ⟨_, rfl⟩
  rw [hX] at t1 his hst
  rw [hK] at t0 his hst
  have HH := Lib.hid h
  have T0 := Lib.hid t0; have T1 := Lib.hid t1; have T2 := Lib.hid t2
  clear hX hK ht hk hw hleg hA
  clear t0 t1 t2 h
  obtain ⟨W, hW⟩ : ∃ W, w.alloc (.cells Qr.zeroP 52) = W := ⟨_, rfl⟩
  have hB : Below w.heap.size w W := by rw [← hW]; exact Tx.newb _ _
  have hs1 : W.heap.size = w.heap.size + 1 := by rw [← hW]; simp
  have HS1 := Lib.hid hs1; clear hs1
  have KR : Hid (W.heap[w.heap.size]? = some (.cells Qr.zeroP 52 (0, 0))) := Lib.hid (by rw [← hW]; exact heap_alloc_new w _)
  have t0_1 := cell_later hB T0.out
  have t1_1 := cell_later hB T1.out
  have t2_1 := cell_later hB T2.out
  go_enter Tryz.func88, Tryz.ntmps88
  go_wp2_with (first
    | (go_at_call 78; ((with_reducible refine (hst.out _).mono ?_); rintro e w3 ⟨rfl, hb3⟩; have k3 := Tx.step k2 hb3; replace KR := Lib.hid (Tx.blk_later KR.out hb3); have t0_3 := cell_later k3 T0.out; have t1_3 := cell_later k3 T1.out; have t2_3 := cell_later k3 T2.out; have z0 : w3.cell? ⟨w.heap.size, 0, none⟩ = some (.int .i64 0) := (Tx.blk KR.out).1 0; have z1 : w3.cell? ⟨w.heap.size, 1, none⟩ = some (.int .i64 0) := (Tx.blk KR.out).1 1; have z2 : w3.cell? ⟨w.heap.size, 2, none⟩ = some (.slice none 0 0) := (Tx.blk KR.out).1 2; have z3 : w3.cell? ⟨w.heap.size, 3, none⟩ = some (.int .i64 0) := (Tx.blk KR.out).1 3; have z4 : w3.cell? ⟨w.heap.size, 4, none⟩ = some (.int .i64 0) := (Tx.blk KR.out).1 4; have z5 : w3.cell? ⟨w.heap.size, 5, none⟩ = some (.slice none 0 0) := (Tx.blk KR.out).1 5; have z6 : w3.cell? ⟨w.heap.size, 6, none⟩ = some (.int .i64 0) := (Tx.blk KR.out).1 6; have z7 : w3.cell? ⟨w.heap.size, 7, none⟩ = some (.bool false) := (Tx.blk KR.out).1 7; have zf : ∀ i, w3.frozen? ⟨w.heap.size, i, none⟩ = false := (Tx.blk KR.out).2.1))
    | (go_at_call 89; ((with_reducible refine (his.out _).mono ?_); rintro e w2 ⟨rfl, hb2⟩; have k2 := Tx.step hB hb2; replace KR := Lib.hid (Tx.blk_later KR.out hb2); have t0_2 := cell_later k2 T0.out; have t1_2 := cell_later k2 T1.out; have t2_2 := cell_later k2 T2.out)))
  exact bodyPost_ret (v := .agg #[.int .i64 0, .int .i64 0, .slice none 0 0, .int .i64 0, .int .i64 0, .slice none 0 0, .int .i64 0, .bool false]) (by simp [results, Tryz.results88, go_sem, z0, z1, z2, z3, z4, z5, z6, z7]) rfl (Qr.RRes.mk_none (Qr.put8 k3 (Nat.le_refl _) _ _ _ _ _ _ _ _))

set_option maxHeartbeats 6400000 in
theorem pp_term_q (toks r : List Qr.Tok) (b o c : Nat) (w : World) (h : Qr.RT w toks b o c) (hr : r <:+ toks) (tk : UInt8) (tt : List UInt8) (tg : Bool) (ht : Qr.lk r = ⟨tk, tt, tg⟩) (h2 : tk = 113) :
    Calls Tryz.prog 88 #[.slice (some ⟨b, o, none⟩) (toks.length + 1) c, .int .i64 ((toks.length - r.length : Nat) : Int)] w (Qr.RRes toks (Qr.pTerm false 0 r) w) := by
  have hleg := h.leg hr
  rw [ht] at hleg
  obtain ⟨t0, t1, t2⟩ := h.at_ r hr
  rw [ht] at t0 t1 t2
  simp only at t0 t1 t2
  have hrl := hr.length_le
  have hlen := h.len
  have hbl := h.lt
  have hcap := h.cap
  have hmax := h.max
  have hmx : maxLen = 9223372036854775807 := rfl
  have his := Lib.hid (fun w => r21_is_c ⟨tk, tt, tg⟩ hleg 40 (by simp) w)
  have hst := Lib.hid (fun w => r21_starts_c ⟨tk, tt, tg⟩ hleg w)
  simp only at his hst
  have hk0 : tk ≠ 0 := by rw [h2]; decide
  obtain ⟨⟨nk, nt, ng⟩, hnx⟩ : ∃ t, Qr.lk r.tail = t := ⟨_, rfl⟩
  have hta := Qr.tail_at hr (by rw [ht]; exact hk0)
  have hlegn := h.leg (Qr.tail_suf hr)
  rw [hnx] at hlegn
  obtain ⟨n0, n1, n2⟩ := h.at_ r.tail (Qr.tail_suf hr)
  rw [hnx, hta] at n0 n1 n2
  simp only at n0 n1 n2
  have hsf := (Qr.tail_suf hr).length_le
  have hte := (Qr.tail_eats (r := r) (by rw [ht]; exact hk0)).2
  have hisn := Lib.hid (fun w => r21_is_c ⟨nk, nt, ng⟩ hlegn 58 (by simp) w)
  simp only at hisn
  have hterm := fun w h => r21_parseTerm_c toks r b o c 0 w h hr
  rw [show (tk == 40) = false by rw [h2]; rfl] at his
  rw [show Qr.beg ⟨tk, tt, tg⟩ = true by unfold Qr.beg; rw [h2]; rfl] at hst
  obtain ⟨A, hA⟩ : ∃ A, toks.length - r.length = A := ⟨_, rfl⟩
  rw [hA] at t0 t1 t2 n0 n1 n2 hterm ⊢
  have HA := Lib.hid hA
  have hA1 : A ≤ toks.length := by omega
  obtain ⟨X, hX⟩ : ∃ X : ByteArray, (⟨(Qr.tx ⟨tk, tt, tg⟩).toArray⟩ : ByteArray) = X := ⟨_, rfl⟩
  obtain ⟨K, hK⟩ : ∃ K, Qr.kR tk = K := ⟨_, rfl⟩
  rw [hX] at t1 his hst
  rw [hK] at t0 his hst
  have HH := Lib.hid h
  have T0 := Lib.hid t0; have T1 := Lib.hid t1; have T2 := Lib.hid t2
  have hAl : A < toks.length := by omega
  obtain ⟨NX, hNX⟩ : ∃ X : ByteArray, (⟨(Qr.tx ⟨nk, nt, ng⟩).toArray⟩ : ByteArray) = X := ⟨_, rfl⟩
  obtain ⟨NK, hNK⟩ : ∃ K, Qr.kR nk = K := ⟨_, rfl⟩
  rw [hNX] at n1 hisn
  rw [hNK] at n0 hisn
  have N0 := Lib.hid n0; have N1 := Lib.hid n1; have N2 := Lib.hid n2
  have hKl : K = 2 := by rw [← hK, h2]; rfl
  subst hKl
  obtain ⟨PT, hPT⟩ : ∃ x, Qr.pTerm false 0 r = x := ⟨_, rfl⟩
  rw [hPT] at hterm ⊢
  have HTM := Lib.hid hterm
  clear hterm hPT hX hK hNX hNK ht hnx h2 hleg hlegn hA hta hk0 n0 n1 n2
  clear t0 t1 t2 h
  obtain ⟨W, hW⟩ : ∃ W, w.alloc (.cells Qr.zeroP 52) = W := ⟨_, rfl⟩
  have hB : Below w.heap.size w W := by rw [← hW]; exact Tx.newb _ _
  have hs1 : W.heap.size = w.heap.size + 1 := by rw [← hW]; simp
  have HS1 := Lib.hid hs1; clear hs1
  have KR : Hid (W.heap[w.heap.size]? = some (.cells Qr.zeroP 52 (0, 0))) := Lib.hid (by rw [← hW]; exact heap_alloc_new w _)
  have t0_1 := cell_later hB T0.out
  have t1_1 := cell_later hB T1.out
  have t2_1 := cell_later hB T2.out
  go_enter Tryz.func88, Tryz.ntmps88
  go_wp2_with (first
    | (go_at_call 97; ((with_reducible refine (HTM.out w3 (HH.out.below k3)).mono ?_); rintro e w4 hh; obtain ⟨po, pf, pa, pb, psa, psn, psc, pka, pkn, pkc, pn, pz, rfl, hb4⟩ := hh.vals; have HHR := Lib.hid hh; clear hh; have k4 := Tx.step k3 hb4; replace KR := Lib.hid (Tx.blk_later KR.out hb4); have z0 : w4.cell? ⟨w.heap.size, 0, none⟩ = some (.int .i64 0) := (Tx.blk KR.out).1 0; have z1 : w4.cell? ⟨w.heap.size, 1, none⟩ = some (.int .i64 0) := (Tx.blk KR.out).1 1; have z2 : w4.cell? ⟨w.heap.size, 2, none⟩ = some (.slice none 0 0) := (Tx.blk KR.out).1 2; have z3 : w4.cell? ⟨w.heap.size, 3, none⟩ = some (.int .i64 0) := (Tx.blk KR.out).1 3; have z4 : w4.cell? ⟨w.heap.size, 4, none⟩ = some (.int .i64 0) := (Tx.blk KR.out).1 4; have z5 : w4.cell? ⟨w.heap.size, 5, none⟩ = some (.slice none 0 0) := (Tx.blk KR.out).1 5; have z6 : w4.cell? ⟨w.heap.size, 6, none⟩ = some (.int .i64 0) := (Tx.blk KR.out).1 6; have z7 : w4.cell? ⟨w.heap.size, 7, none⟩ = some (.bool false) := (Tx.blk KR.out).1 7; have zf : ∀ i, w4.frozen? ⟨w.heap.size, i, none⟩ = false := (Tx.blk KR.out).2.1; have hz3 := hb3.size))
    | (go_at_call 78; ((with_reducible refine (hst.out _).mono ?_); rintro e w3 ⟨rfl, hb3⟩; have k3 := Tx.step k2 hb3; replace KR := Lib.hid (Tx.blk_later KR.out hb3); have t0_3 := cell_later k3 T0.out; have t1_3 := cell_later k3 T1.out; have t2_3 := cell_later k3 T2.out; have n0_3 := cell_later k3 N0.out; have n1_3 := cell_later k3 N1.out; have n2_3 := cell_later k3 N2.out))
    | (go_at_call 89; ((with_reducible refine (his.out _).mono ?_); rintro e w2 ⟨rfl, hb2⟩; have k2 := Tx.step hB hb2; replace KR := Lib.hid (Tx.blk_later KR.out hb2); have t0_2 := cell_later k2 T0.out; have t1_2 := cell_later k2 T1.out; have t2_2 := cell_later k2 T2.out)))
  have hsz : w.heap.size < w3.heap.size := by have := HS1.out; have := hb2.size; have := hb3.size; omega
  exact bodyPost_ret (v := .agg #[.int .i64 po, .int .i64 pf, .slice psa psn psc, .int .i64 pa, .int .i64 pb, .slice pka pkn pkc, .int .i64 pn, .bool pz]) (by simp [results, Tryz.results88, go_sem, z0, z1, z2, z3, z4, z5, z6, z7]) rfl (HHR.out.carry (by omega) (Qr.put8 k4 (Nat.le_refl _) _ _ _ _ _ _ _ _) ((Qr.Kp.refl _ _).put8 (by omega) _ _ _ _ _ _ _ _))

set_option maxHeartbeats 6400000 in
theorem pp_term_n (toks r : List Qr.Tok) (b o c : Nat) (w : World) (h : Qr.RT w toks b o c) (hr : r <:+ toks) (tk : UInt8) (tt : List UInt8) (tg : Bool) (ht : Qr.lk r = ⟨tk, tt, tg⟩) (h2 : tk = 114) (hw : Qr.anyOp ⟨tk, tt, tg⟩ = false) (h5 : (Qr.lk r.tail).k ≠ 58) :
    Calls Tryz.prog 88 #[.slice (some ⟨b, o, none⟩) (toks.length + 1) c, .int .i64 ((toks.length - r.length : Nat) : Int)] w (Qr.RRes toks (Qr.pTerm false 0 r) w) := by
  have hleg := h.leg hr
  rw [ht] at hleg
  obtain ⟨t0, t1, t2⟩ := h.at_ r hr
  rw [ht] at t0 t1 t2
  simp only at t0 t1 t2
  have hrl := hr.length_le
  have hlen := h.len
  have hbl := h.lt
  have hcap := h.cap
  have hmax := h.max
  have hmx : maxLen = 9223372036854775807 := rfl
  have his := Lib.hid (fun w => r21_is_c ⟨tk, tt, tg⟩ hleg 40 (by simp) w)
  have hst := Lib.hid (fun w => r21_starts_c ⟨tk, tt, tg⟩ hleg w)
  simp only at his hst
  have hk0 : tk ≠ 0 := by rw [h2]; decide
  obtain ⟨⟨nk, nt, ng⟩, hnx⟩ : ∃ t, Qr.lk r.tail = t := ⟨_, rfl⟩
  have hta := Qr.tail_at hr (by rw [ht]; exact hk0)
  have hlegn := h.leg (Qr.tail_suf hr)
  rw [hnx] at hlegn
  obtain ⟨n0, n1, n2⟩ := h.at_ r.tail (Qr.tail_suf hr)
  rw [hnx, hta] at n0 n1 n2
  simp only at n0 n1 n2
  have hsf := (Qr.tail_suf hr).length_le
  have hte := (Qr.tail_eats (r := r) (by rw [ht]; exact hk0)).2
  have hisn := Lib.hid (fun w => r21_is_c ⟨nk, nt, ng⟩ hlegn 58 (by simp) w)
  simp only at hisn
  have hterm := fun w h => r21_parseTerm_c toks r b o c 0 w h hr
  rw [show (tk == 40) = false by rw [h2]; rfl] at his
  rw [show Qr.beg ⟨tk, tt, tg⟩ = true by rw [h2] at hw ⊢; unfold Qr.beg; rw [hw]; rfl] at hst
  rw [hnx] at h5
  rw [show (nk == 58) = false from beq_eq_false_iff_ne.2 h5] at hisn
  obtain ⟨A, hA⟩ : ∃ A, toks.length - r.length = A := ⟨_, rfl⟩
  rw [hA] at t0 t1 t2 n0 n1 n2 hterm ⊢
  have HA := Lib.hid hA
  have hA1 : A ≤ toks.length := by omega
  obtain ⟨X, hX⟩ : ∃ X : ByteArray, (⟨(Qr.tx ⟨tk, tt, tg⟩).toArray⟩ : ByteArray) = X := ⟨_, rfl⟩
  obtain ⟨K, hK⟩ : ∃ K, Qr.kR tk = K := ⟨_, rfl⟩
  rw [hX] at t1 his hst
  rw [hK] at t0 his hst
  have HH := Lib.hid h
  have T0 := Lib.hid t0; have T1 := Lib.hid t1; have T2 := Lib.hid t2
  have hAl : A < toks.length := by omega
  obtain ⟨NX, hNX⟩ : ∃ X : ByteArray, (⟨(Qr.tx ⟨nk, nt, ng⟩).toArray⟩ : ByteArray) = X := ⟨_, rfl⟩
  obtain ⟨NK, hNK⟩ : ∃ K, Qr.kR nk = K := ⟨_, rfl⟩
  rw [hNX] at n1 hisn
  rw [hNK] at n0 hisn
  have N0 := Lib.hid n0; have N1 := Lib.hid n1; have N2 := Lib.hid n2
  have hKl : K = 1 := by rw [← hK, h2]; rfl
  subst hKl
  obtain ⟨PT, hPT⟩ : ∃ x, Qr.pTerm false 0 r = x := ⟨_, rfl⟩
  rw [hPT] at hterm ⊢
  have HTM := Lib.hid hterm
  clear hterm hPT hX hK hNX hNK ht hnx h2 hleg hlegn hA hta hk0 n0 n1 n2 hw h5
  clear t0 t1 t2 h
  obtain ⟨W, hW⟩ : ∃ W, w.alloc (.cells Qr.zeroP 52) = W := ⟨_, rfl⟩
  have hB : Below w.heap.size w W := by rw [← hW]; exact Tx.newb _ _
  have hs1 : W.heap.size = w.heap.size + 1 := by rw [← hW]; simp
  have HS1 := Lib.hid hs1; clear hs1
  have KR : Hid (W.heap[w.heap.size]? = some (.cells Qr.zeroP 52 (0, 0))) := Lib.hid (by rw [← hW]; exact heap_alloc_new w _)
  have t0_1 := cell_later hB T0.out
  have t1_1 := cell_later hB T1.out
  have t2_1 := cell_later hB T2.out
  go_enter Tryz.func88, Tryz.ntmps88
  go_wp2_with (first
    | (go_at_call 97; ((with_reducible refine (HTM.out w4 (HH.out.below k4)).mono ?_); rintro e w5 hh; obtain ⟨po, pf, pa, pb, psa, psn, psc, pka, pkn, pkc, pn, pz, rfl, hb5⟩ := hh.vals; have HHR := Lib.hid hh; clear hh; have k5 := Tx.step k4 hb5; replace KR := Lib.hid (Tx.blk_later KR.out hb5); have z0 : w5.cell? ⟨w.heap.size, 0, none⟩ = some (.int .i64 0) := (Tx.blk KR.out).1 0; have z1 : w5.cell? ⟨w.heap.size, 1, none⟩ = some (.int .i64 0) := (Tx.blk KR.out).1 1; have z2 : w5.cell? ⟨w.heap.size, 2, none⟩ = some (.slice none 0 0) := (Tx.blk KR.out).1 2; have z3 : w5.cell? ⟨w.heap.size, 3, none⟩ = some (.int .i64 0) := (Tx.blk KR.out).1 3; have z4 : w5.cell? ⟨w.heap.size, 4, none⟩ = some (.int .i64 0) := (Tx.blk KR.out).1 4; have z5 : w5.cell? ⟨w.heap.size, 5, none⟩ = some (.slice none 0 0) := (Tx.blk KR.out).1 5; have z6 : w5.cell? ⟨w.heap.size, 6, none⟩ = some (.int .i64 0) := (Tx.blk KR.out).1 6; have z7 : w5.cell? ⟨w.heap.size, 7, none⟩ = some (.bool false) := (Tx.blk KR.out).1 7; have zf : ∀ i, w5.frozen? ⟨w.heap.size, i, none⟩ = false := (Tx.blk KR.out).2.1; have hz4 := hb4.size))
    | (go_at_call 89; ((with_reducible refine (hisn.out w3).mono ?_); rintro e w4 ⟨rfl, hb4⟩; have k4 := Tx.step k3 hb4; replace KR := Lib.hid (Tx.blk_later KR.out hb4); have t0_4 := cell_later k4 T0.out; have t1_4 := cell_later k4 T1.out; have t2_4 := cell_later k4 T2.out; have n0_4 := cell_later k4 N0.out; have n1_4 := cell_later k4 N1.out; have n2_4 := cell_later k4 N2.out))
    | (go_at_call 78; ((with_reducible refine (hst.out _).mono ?_); rintro e w3 ⟨rfl, hb3⟩; have k3 := Tx.step k2 hb3; replace KR := Lib.hid (Tx.blk_later KR.out hb3); have t0_3 := cell_later k3 T0.out; have t1_3 := cell_later k3 T1.out; have t2_3 := cell_later k3 T2.out; have n0_3 := cell_later k3 N0.out; have n1_3 := cell_later k3 N1.out; have n2_3 := cell_later k3 N2.out))
    | (go_at_call 89; ((with_reducible refine (his.out _).mono ?_); rintro e w2 ⟨rfl, hb2⟩; have k2 := Tx.step hB hb2; replace KR := Lib.hid (Tx.blk_later KR.out hb2); have t0_2 := cell_later k2 T0.out; have t1_2 := cell_later k2 T1.out; have t2_2 := cell_later k2 T2.out)))
  have hsz : w.heap.size < w4.heap.size := by have := HS1.out; have := hb2.size; have := hb3.size; have := hb4.size; omega
  exact bodyPost_ret (v := .agg #[.int .i64 po, .int .i64 pf, .slice psa psn psc, .int .i64 pa, .int .i64 pb, .slice pka pkn pkc, .int .i64 pn, .bool pz]) (by simp [results, Tryz.results88, go_sem, z0, z1, z2, z3, z4, z5, z6, z7]) rfl (HHR.out.carry (by omega) (Qr.put8 k5 (Nat.le_refl _) _ _ _ _ _ _ _ _) ((Qr.Kp.refl _ _).put8 (by omega) _ _ _ _ _ _ _ _))

set_option maxHeartbeats 6400000 in
theorem pp_term_g (toks r : List Qr.Tok) (b o c : Nat) (w : World) (h : Qr.RT w toks b o c) (hr : r <:+ toks) (tk : UInt8) (tt : List UInt8) (tg : Bool) (ht : Qr.lk r = ⟨tk, tt, tg⟩) (h2 : tk = 114) (hw : Qr.anyOp ⟨tk, tt, tg⟩ = false) (h5 : (Qr.lk r.tail).k = 58) (h6 : (Qr.lk r.tail).g = false) :
    Calls Tryz.prog 88 #[.slice (some ⟨b, o, none⟩) (toks.length + 1) c, .int .i64 ((toks.length - r.length : Nat) : Int)] w (Qr.RRes toks (Qr.pTerm false 0 r) w) := by
  have hleg := h.leg hr
  rw [ht] at hleg
  obtain ⟨t0, t1, t2⟩ := h.at_ r hr
  rw [ht] at t0 t1 t2
  simp only at t0 t1 t2
  have hrl := hr.length_le
  have hlen := h.len
  have hbl := h.lt
  have hcap := h.cap
  have hmax := h.max
  have hmx : maxLen = 9223372036854775807 := rfl
  have his := Lib.hid (fun w => r21_is_c ⟨tk, tt, tg⟩ hleg 40 (by simp) w)
  have hst := Lib.hid (fun w => r21_starts_c ⟨tk, tt, tg⟩ hleg w)
  simp only at his hst
  have hk0 : tk ≠ 0 := by rw [h2]; decide
  obtain ⟨⟨nk, nt, ng⟩, hnx⟩ : ∃ t, Qr.lk r.tail = t := ⟨_, rfl⟩
  have hta := Qr.tail_at hr (by rw [ht]; exact hk0)
  have hlegn := h.leg (Qr.tail_suf hr)
  rw [hnx] at hlegn
  obtain ⟨n0, n1, n2⟩ := h.at_ r.tail (Qr.tail_suf hr)
  rw [hnx, hta] at n0 n1 n2
  simp only at n0 n1 n2
  have hsf := (Qr.tail_suf hr).length_le
  have hte := (Qr.tail_eats (r := r) (by rw [ht]; exact hk0)).2
  have hisn := Lib.hid (fun w => r21_is_c ⟨nk, nt, ng⟩ hlegn 58 (by simp) w)
  simp only at hisn
  have hterm := fun w h => r21_parseTerm_c toks r b o c 0 w h hr
  rw [show (tk == 40) = false by rw [h2]; rfl] at his
  rw [show Qr.beg ⟨tk, tt, tg⟩ = true by rw [h2] at hw ⊢; unfold Qr.beg; rw [hw]; rfl] at hst
  rw [hnx] at h5 h6
  simp only at h5 h6
  rw [show (nk == 58) = true by rw [h5]; rfl] at hisn
  obtain ⟨A, hA⟩ : ∃ A, toks.length - r.length = A := ⟨_, rfl⟩
  rw [hA] at t0 t1 t2 n0 n1 n2 hterm ⊢
  have HA := Lib.hid hA
  have hA1 : A ≤ toks.length := by omega
  obtain ⟨X, hX⟩ : ∃ X : ByteArray, (⟨(Qr.tx ⟨tk, tt, tg⟩).toArray⟩ : ByteArray) = X := ⟨_, rfl⟩
  obtain ⟨K, hK⟩ : ∃ K, Qr.kR tk = K := ⟨_, rfl⟩
  rw [hX] at t1 his hst
  rw [hK] at t0 his hst
  have HH := Lib.hid h
  have T0 := Lib.hid t0; have T1 := Lib.hid t1; have T2 := Lib.hid t2
  have hAl : A < toks.length := by omega
  obtain ⟨NX, hNX⟩ : ∃ X : ByteArray, (⟨(Qr.tx ⟨nk, nt, ng⟩).toArray⟩ : ByteArray) = X := ⟨_, rfl⟩
  obtain ⟨NK, hNK⟩ : ∃ K, Qr.kR nk = K := ⟨_, rfl⟩
  rw [hNX] at n1 hisn
  rw [hNK] at n0 hisn
  have N0 := Lib.hid n0; have N1 := Lib.hid n1; have N2 := Lib.hid n2
  have hKl : K = 1 := by rw [← hK, h2]; rfl
  subst hKl
  subst h6
  obtain ⟨PT, hPT⟩ : ∃ x, Qr.pTerm false 0 r = x := ⟨_, rfl⟩
  rw [hPT] at hterm ⊢
  have HTM := Lib.hid hterm
  clear hterm hPT hX hK hNX hNK ht hnx h2 hleg hlegn hA hta hk0 n0 n1 n2 hw h5
  clear t0 t1 t2 h
  obtain ⟨W, hW⟩ : ∃ W, w.alloc (.cells Qr.zeroP 52) = W := ⟨_, rfl⟩
  have hB : Below w.heap.size w W := by rw [← hW]; exact Tx.newb _ _
  have hs1 : W.heap.size = w.heap.size + 1 := by rw [← hW]; simp
  have HS1 := Lib.hid hs1; clear hs1
  have KR : Hid (W.heap[w.heap.size]? = some (.cells Qr.zeroP 52 (0, 0))) := Lib.hid (by rw [← hW]; exact heap_alloc_new w _)
  have t0_1 := cell_later hB T0.out
  have t1_1 := cell_later hB T1.out
  have t2_1 := cell_later hB T2.out
  go_enter Tryz.func88, Tryz.ntmps88
  go_wp2_with (first
    | (go_at_call 97; ((with_reducible refine (HTM.out w4 (HH.out.below k4)).mono ?_); rintro e w5 hh; obtain ⟨po, pf, pa, pb, psa, psn, psc, pka, pkn, pkc, pn, pz, rfl, hb5⟩ := hh.vals; have HHR := Lib.hid hh; clear hh; have k5 := Tx.step k4 hb5; replace KR := Lib.hid (Tx.blk_later KR.out hb5); have z0 : w5.cell? ⟨w.heap.size, 0, none⟩ = some (.int .i64 0) := (Tx.blk KR.out).1 0; have z1 : w5.cell? ⟨w.heap.size, 1, none⟩ = some (.int .i64 0) := (Tx.blk KR.out).1 1; have z2 : w5.cell? ⟨w.heap.size, 2, none⟩ = some (.slice none 0 0) := (Tx.blk KR.out).1 2; have z3 : w5.cell? ⟨w.heap.size, 3, none⟩ = some (.int .i64 0) := (Tx.blk KR.out).1 3; have z4 : w5.cell? ⟨w.heap.size, 4, none⟩ = some (.int .i64 0) := (Tx.blk KR.out).1 4; have z5 : w5.cell? ⟨w.heap.size, 5, none⟩ = some (.slice none 0 0) := (Tx.blk KR.out).1 5; have z6 : w5.cell? ⟨w.heap.size, 6, none⟩ = some (.int .i64 0) := (Tx.blk KR.out).1 6; have z7 : w5.cell? ⟨w.heap.size, 7, none⟩ = some (.bool false) := (Tx.blk KR.out).1 7; have zf : ∀ i, w5.frozen? ⟨w.heap.size, i, none⟩ = false := (Tx.blk KR.out).2.1; have hz4 := hb4.size))
    | (go_at_call 89; ((with_reducible refine (hisn.out w3).mono ?_); rintro e w4 ⟨rfl, hb4⟩; have k4 := Tx.step k3 hb4; replace KR := Lib.hid (Tx.blk_later KR.out hb4); have t0_4 := cell_later k4 T0.out; have t1_4 := cell_later k4 T1.out; have t2_4 := cell_later k4 T2.out; have n0_4 := cell_later k4 N0.out; have n1_4 := cell_later k4 N1.out; have n2_4 := cell_later k4 N2.out))
    | (go_at_call 78; ((with_reducible refine (hst.out _).mono ?_); rintro e w3 ⟨rfl, hb3⟩; have k3 := Tx.step k2 hb3; replace KR := Lib.hid (Tx.blk_later KR.out hb3); have t0_3 := cell_later k3 T0.out; have t1_3 := cell_later k3 T1.out; have t2_3 := cell_later k3 T2.out; have n0_3 := cell_later k3 N0.out; have n1_3 := cell_later k3 N1.out; have n2_3 := cell_later k3 N2.out))
    | (go_at_call 89; ((with_reducible refine (his.out _).mono ?_); rintro e w2 ⟨rfl, hb2⟩; have k2 := Tx.step hB hb2; replace KR := Lib.hid (Tx.blk_later KR.out hb2); have t0_2 := cell_later k2 T0.out; have t1_2 := cell_later k2 T1.out; have t2_2 := cell_later k2 T2.out)))
  have hsz : w.heap.size < w4.heap.size := by have := HS1.out; have := hb2.size; have := hb3.size; have := hb4.size; omega
  exact bodyPost_ret (v := .agg #[.int .i64 po, .int .i64 pf, .slice psa psn psc, .int .i64 pa, .int .i64 pb, .slice pka pkn pkc, .int .i64 pn, .bool pz]) (by simp [results, Tryz.results88, go_sem, z0, z1, z2, z3, z4, z5, z6, z7]) rfl (HHR.out.carry (by omega) (Qr.put8 k5 (Nat.le_refl _) _ _ _ _ _ _ _ _) ((Qr.Kp.refl _ _).put8 (by omega) _ _ _ _ _ _ _ _))

set_option maxHeartbeats 6400000 in
theorem pp_f_loose (toks r : List Qr.Tok) (b o c : Nat) (w : World) (h : Qr.RT w toks b o c) (hr : r <:+ toks) (tk : UInt8) (tt : List UInt8) (tg : Bool) (ht : Qr.lk r = ⟨tk, tt, tg⟩) (h2 : tk = 114) (hw : Qr.anyOp ⟨tk, tt, tg⟩ = false) (h5 : (Qr.lk r.tail).k = 58) (h6 : (Qr.lk r.tail).g = true) (h7 : (Qr.lk r.tail.tail).g = false) :
    Calls Tryz.prog 88 #[.slice (some ⟨b, o, none⟩) (toks.length + 1) c, .int .i64 ((toks.length - r.length : Nat) : Int)] w (Qr.RRes toks (none) w) := by
  have hleg := h.leg hr
  rw [ht] at hleg
  obtain ⟨t0, t1, t2⟩ := h.at_ r hr
  rw [ht] at t0 t1 t2
  simp only at t0 t1 t2
  have hrl := hr.length_le
  have hlen := h.len
  have hbl := h.lt
  have hcap := h.cap
  have hmax := h.max
  have hmx : maxLen = 9223372036854775807 := rfl
  have his := Lib.hid (fun w => r21_is_c ⟨tk, tt, tg⟩ hleg 40 (by simp) w)
  have hst := Lib.hid (fun w => r21_starts_c ⟨tk, tt, tg⟩ hleg w)
  simp only at his hst
  have hk0 : tk ≠ 0 := by rw [h2]; decide
  obtain ⟨⟨nk, nt, ng⟩, hnx⟩ : ∃ t, Qr.lk r.tail = t := ⟨_, rfl⟩
  have hta := Qr.tail_at hr (by rw [ht]; exact hk0)
  have hlegn := h.leg (Qr.tail_suf hr)
  rw [hnx] at hlegn
  obtain ⟨n0, n1, n2⟩ := h.at_ r.tail (Qr.tail_suf hr)
  rw [hnx, hta] at n0 n1 n2
  simp only at n0 n1 n2
  have hsf := (Qr.tail_suf hr).length_le
  have hte := (Qr.tail_eats (r := r) (by rw [ht]; exact hk0)).2
  have hisn := Lib.hid (fun w => r21_is_c ⟨nk, nt, ng⟩ hlegn 58 (by simp) w)
  simp only at hisn
  have hta2 := Qr.tail_at (Qr.tail_suf hr) (by rw [h5]; simp)
  have hsuf2 := Qr.tail_suf (Qr.tail_suf hr)
  obtain ⟨m0, m1, m2⟩ := h.at_ r.tail.tail hsuf2
  rw [h7, hta2, hta] at m2
  rw [hta2, hta] at m0 m1
  have hsl2 := hsuf2.length_le
  have hte2 := (Qr.tail_eats (r := r.tail) (by rw [h5]; simp)).2
  rw [show (tk == 40) = false by rw [h2]; rfl] at his
  rw [show Qr.beg ⟨tk, tt, tg⟩ = true by rw [h2] at hw ⊢; unfold Qr.beg; rw [hw]; rfl] at hst
  rw [hnx] at h5 h6
  simp only at h5 h6
  rw [show (nk == 58) = true by rw [h5]; rfl] at hisn
  have hxt : (⟨(Qr.tx ⟨tk, tt, tg⟩).toArray⟩ : ByteArray) = ⟨tt.toArray⟩ := by unfold Qr.tx; rw [if_pos (.inr h2)]
  obtain ⟨A, hA⟩ : ∃ A, toks.length - r.length = A := ⟨_, rfl⟩
  rw [hA] at t0 t1 t2 n0 n1 n2 m0 m1 m2 ⊢
  have HA := Lib.hid hA
  have hA1 : A ≤ toks.length := by omega
  obtain ⟨X, hX⟩ : ∃ X : ByteArray, (⟨(Qr.tx ⟨tk, tt, tg⟩).toArray⟩ : ByteArray) = X := ⟨_, rfl⟩
  obtain ⟨K, hK⟩ : ∃ K, Qr.kR tk = K := ⟨_, rfl⟩
  rw [hX] at t1 his hst
  rw [hK] at t0 his hst
  have HH := Lib.hid h
  have T0 := Lib.hid t0; have T1 := Lib.hid t1; have T2 := Lib.hid t2
  have hAl : A < toks.length := by omega
  obtain ⟨NX, hNX⟩ : ∃ X : ByteArray, (⟨(Qr.tx ⟨nk, nt, ng⟩).toArray⟩ : ByteArray) = X := ⟨_, rfl⟩
  obtain ⟨NK, hNK⟩ : ∃ K, Qr.kR nk = K := ⟨_, rfl⟩
  rw [hNX] at n1 hisn
  rw [hNK] at n0 hisn
  have N0 := Lib.hid n0; have N1 := Lib.hid n1; have N2 := Lib.hid n2
  have hAl2 : A + 1 < toks.length := by omega
  have hKl : K = 1 := by rw [← hK, h2]; rfl
  subst hKl
  subst h6
  rw [hX] at hxt
  have M2 := Lib.hid m2
  clear hX hxt hK hNX hNK ht hnx h2 hleg hlegn hA hta hta2 hk0 n0 n1 n2 m0 m1 m2 h7 hw h5
  clear t0 t1 t2 h
  obtain ⟨W, hW⟩ : ∃ W, w.alloc (.cells Qr.zeroP 52) = W := ⟨_, rfl⟩
  have hB : Below w.heap.size w W := by rw [← hW]; exact Tx.newb _ _
  have hs1 : W.heap.size = w.heap.size + 1 := by rw [← hW]; simp
  have HS1 := Lib.hid hs1; clear hs1
  have KR : Hid (W.heap[w.heap.size]? = some (.cells Qr.zeroP 52 (0, 0))) := Lib.hid (by rw [← hW]; exact heap_alloc_new w _)
  have t0_1 := cell_later hB T0.out
  have t1_1 := cell_later hB T1.out
  have t2_1 := cell_later hB T2.out
  go_enter Tryz.func88, Tryz.ntmps88
  go_wp2_with (first
    | (go_at_call 89; ((with_reducible refine (hisn.out w3).mono ?_); rintro e w4 ⟨rfl, hb4⟩; have k4 := Tx.step k3 hb4; replace KR := Lib.hid (Tx.blk_later KR.out hb4); have t0_4 := cell_later k4 T0.out; have t1_4 := cell_later k4 T1.out; have t2_4 := cell_later k4 T2.out; have n0_4 := cell_later k4 N0.out; have n1_4 := cell_later k4 N1.out; have n2_4 := cell_later k4 N2.out; have m2_4 := cell_later k4 M2.out; have z0 : w4.cell? ⟨w.heap.size, 0, none⟩ = some (.int .i64 0) := (Tx.blk KR.out).1 0; have z1 : w4.cell? ⟨w.heap.size, 1, none⟩ = some (.int .i64 0) := (Tx.blk KR.out).1 1; have z2 : w4.cell? ⟨w.heap.size, 2, none⟩ = some (.slice none 0 0) := (Tx.blk KR.out).1 2; have z3 : w4.cell? ⟨w.heap.size, 3, none⟩ = some (.int .i64 0) := (Tx.blk KR.out).1 3; have z4 : w4.cell? ⟨w.heap.size, 4, none⟩ = some (.int .i64 0) := (Tx.blk KR.out).1 4; have z5 : w4.cell? ⟨w.heap.size, 5, none⟩ = some (.slice none 0 0) := (Tx.blk KR.out).1 5; have z6 : w4.cell? ⟨w.heap.size, 6, none⟩ = some (.int .i64 0) := (Tx.blk KR.out).1 6; have z7 : w4.cell? ⟨w.heap.size, 7, none⟩ = some (.bool false) := (Tx.blk KR.out).1 7; have zf : ∀ i, w4.frozen? ⟨w.heap.size, i, none⟩ = false := (Tx.blk KR.out).2.1))
    | (go_at_call 78; ((with_reducible refine (hst.out _).mono ?_); rintro e w3 ⟨rfl, hb3⟩; have k3 := Tx.step k2 hb3; replace KR := Lib.hid (Tx.blk_later KR.out hb3); have t0_3 := cell_later k3 T0.out; have t1_3 := cell_later k3 T1.out; have t2_3 := cell_later k3 T2.out; have n0_3 := cell_later k3 N0.out; have n1_3 := cell_later k3 N1.out; have n2_3 := cell_later k3 N2.out))
    | (go_at_call 89; ((with_reducible refine (his.out _).mono ?_); rintro e w2 ⟨rfl, hb2⟩; have k2 := Tx.step hB hb2; replace KR := Lib.hid (Tx.blk_later KR.out hb2); have t0_2 := cell_later k2 T0.out; have t1_2 := cell_later k2 T1.out; have t2_2 := cell_later k2 T2.out)))
  exact bodyPost_ret (v := .agg #[.int .i64 0, .int .i64 0, .slice none 0 0, .int .i64 0, .int .i64 0, .slice none 0 0, .int .i64 0, .bool false]) (by simp [results, Tryz.results88, go_sem, z0, z1, z2, z3, z4, z5, z6, z7]) rfl (Qr.RRes.mk_none (Qr.put8 k4 (Nat.le_refl _) _ _ _ _ _ _ _ _))

set_option maxHeartbeats 6400000 in
theorem pp_f_year (toks r : List Qr.Tok) (b o c : Nat) (w : World) (h : Qr.RT w toks b o c) (hr : r <:+ toks) (tk : UInt8) (tt : List UInt8) (tg : Bool) (ht : Qr.lk r = ⟨tk, tt, tg⟩) (h2 : tk = 114) (hw : Qr.anyOp ⟨tk, tt, tg⟩ = false) (h5 : (Qr.lk r.tail).k = 58) (h6 : (Qr.lk r.tail).g = true) (h7 : (Qr.lk r.tail.tail).g = true) (h8 : tt = [121, 101, 97, 114]) :
    Calls Tryz.prog 88 #[.slice (some ⟨b, o, none⟩) (toks.length + 1) c, .int .i64 ((toks.length - r.length : Nat) : Int)] w (Qr.RRes toks (Qr.pYears false r.tail.tail) w) := by
  have hleg := h.leg hr
  rw [ht] at hleg
  obtain ⟨t0, t1, t2⟩ := h.at_ r hr
  rw [ht] at t0 t1 t2
  simp only at t0 t1 t2
  have hrl := hr.length_le
  have hlen := h.len
  have hbl := h.lt
  have hcap := h.cap
  have hmax := h.max
  have hmx : maxLen = 9223372036854775807 := rfl
  have his := Lib.hid (fun w => r21_is_c ⟨tk, tt, tg⟩ hleg 40 (by simp) w)
  have hst := Lib.hid (fun w => r21_starts_c ⟨tk, tt, tg⟩ hleg w)
  simp only at his hst
  have hk0 : tk ≠ 0 := by rw [h2]; decide
  obtain ⟨⟨nk, nt, ng⟩, hnx⟩ : ∃ t, Qr.lk r.tail = t := ⟨_, rfl⟩
  have hta := Qr.tail_at hr (by rw [ht]; exact hk0)
  have hlegn := h.leg (Qr.tail_suf hr)
  rw [hnx] at hlegn
  obtain ⟨n0, n1, n2⟩ := h.at_ r.tail (Qr.tail_suf hr)
  rw [hnx, hta] at n0 n1 n2
  simp only at n0 n1 n2
  have hsf := (Qr.tail_suf hr).length_le
  have hte := (Qr.tail_eats (r := r) (by rw [ht]; exact hk0)).2
  have hisn := Lib.hid (fun w => r21_is_c ⟨nk, nt, ng⟩ hlegn 58 (by simp) w)
  simp only at hisn
  have hta2 := Qr.tail_at (Qr.tail_suf hr) (by rw [h5]; simp)
  have hsuf2 := Qr.tail_suf (Qr.tail_suf hr)
  obtain ⟨m0, m1, m2⟩ := h.at_ r.tail.tail hsuf2
  rw [h7, hta2, hta] at m2
  rw [hta2, hta] at m0 m1
  have hsl2 := hsuf2.length_le
  have hte2 := (Qr.tail_eats (r := r.tail) (by rw [h5]; simp)).2
  have hleg2 := h.leg hsuf2
  have hk2 : (Qr.lk r.tail.tail).k ≠ 0 := fun e => by
    rcases hleg2 with h | h | h | h | h | h | ⟨_, _, h⟩
    all_goals first | (rw [h7] at h; cases h) | (rw [e] at h; exact absurd h (by decide))
  have hsub := fun w h => r21_parseYears_c toks r.tail.tail b o c w h hsuf2 hk2
  rw [hta2, hta, show ((toks.length - r.length + 1 + 1 : Nat) : Int) = ((toks.length - r.length : Nat) : Int) + 2 by omega] at hsub
  rw [show (tk == 40) = false by rw [h2]; rfl] at his
  rw [show Qr.beg ⟨tk, tt, tg⟩ = true by rw [h2] at hw ⊢; unfold Qr.beg; rw [hw]; rfl] at hst
  rw [hnx] at h5 h6
  simp only at h5 h6
  rw [show (nk == 58) = true by rw [h5]; rfl] at hisn
  have hxt : (⟨(Qr.tx ⟨tk, tt, tg⟩).toArray⟩ : ByteArray) = ⟨tt.toArray⟩ := by unfold Qr.tx; rw [if_pos (.inr h2)]
  obtain ⟨A, hA⟩ : ∃ A, toks.length - r.length = A := ⟨_, rfl⟩
  rw [hA] at t0 t1 t2 n0 n1 n2 m0 m1 m2 hsub ⊢
  have HA := Lib.hid hA
  have hA1 : A ≤ toks.length := by omega
  obtain ⟨X, hX⟩ : ∃ X : ByteArray, (⟨(Qr.tx ⟨tk, tt, tg⟩).toArray⟩ : ByteArray) = X := ⟨_, rfl⟩
  obtain ⟨K, hK⟩ : ∃ K, Qr.kR tk = K := ⟨_, rfl⟩
  rw [hX] at t1 his hst
  rw [hK] at t0 his hst
  have HH := Lib.hid h
  have T0 := Lib.hid t0; have T1 := Lib.hid t1; have T2 := Lib.hid t2
  have hAl : A < toks.length := by omega
  obtain ⟨NX, hNX⟩ : ∃ X : ByteArray, (⟨(Qr.tx ⟨nk, nt, ng⟩).toArray⟩ : ByteArray) = X := ⟨_, rfl⟩
  obtain ⟨NK, hNK⟩ : ∃ K, Qr.kR nk = K := ⟨_, rfl⟩
  rw [hNX] at n1 hisn
  rw [hNK] at n0 hisn
  have N0 := Lib.hid n0; have N1 := Lib.hid n1; have N2 := Lib.hid n2
  have hAl2 : A + 1 < toks.length := by omega
  have hKl : K = 1 := by rw [← hK, h2]; rfl
  subst hKl
  subst h6
  rw [hX] at hxt
  have hXl : X = ⟨#[121, 101, 97, 114]⟩ := by rw [hxt, h8]
  subst hXl
  obtain ⟨PT, hPT⟩ : ∃ x, Qr.pYears false r.tail.tail = x := ⟨_, rfl⟩
  rw [hPT] at hsub ⊢
  have HTM := Lib.hid hsub
  clear hsub hPT
  have M2 := Lib.hid m2
  clear hX hxt hK hNX hNK ht hnx h2 hleg hlegn hA hta hta2 hk0 n0 n1 n2 m0 m1 m2 h7 hw h5 h8 hleg2 hk2
  clear t0 t1 t2 h
  obtain ⟨W, hW⟩ : ∃ W, w.alloc (.cells Qr.zeroP 52) = W := ⟨_, rfl⟩
  have hB : Below w.heap.size w W := by rw [← hW]; exact Tx.newb _ _
  have hs1 : W.heap.size = w.heap.size + 1 := by rw [← hW]; simp
  have HS1 := Lib.hid hs1; clear hs1
  have KR : Hid (W.heap[w.heap.size]? = some (.cells Qr.zeroP 52 (0, 0))) := Lib.hid (by rw [← hW]; exact heap_alloc_new w _)
  have t0_1 := cell_later hB T0.out
  have t1_1 := cell_later hB T1.out
  have t2_1 := cell_later hB T2.out
  go_enter Tryz.func88, Tryz.ntmps88
  go_wp2_with (first
    | (go_at_call 98; ((with_reducible refine (HTM.out w4 (HH.out.below k4)).mono ?_); rintro e w5 hh; obtain ⟨po, pf, pa, pb, psa, psn, psc, pka, pkn, pkc, pn, pz, rfl, hb5⟩ := hh.vals; have HHR := Lib.hid hh; clear hh; have k5 := Tx.step k4 hb5; replace KR := Lib.hid (Tx.blk_later KR.out hb5); have z0 : w5.cell? ⟨w.heap.size, 0, none⟩ = some (.int .i64 0) := (Tx.blk KR.out).1 0; have z1 : w5.cell? ⟨w.heap.size, 1, none⟩ = some (.int .i64 0) := (Tx.blk KR.out).1 1; have z2 : w5.cell? ⟨w.heap.size, 2, none⟩ = some (.slice none 0 0) := (Tx.blk KR.out).1 2; have z3 : w5.cell? ⟨w.heap.size, 3, none⟩ = some (.int .i64 0) := (Tx.blk KR.out).1 3; have z4 : w5.cell? ⟨w.heap.size, 4, none⟩ = some (.int .i64 0) := (Tx.blk KR.out).1 4; have z5 : w5.cell? ⟨w.heap.size, 5, none⟩ = some (.slice none 0 0) := (Tx.blk KR.out).1 5; have z6 : w5.cell? ⟨w.heap.size, 6, none⟩ = some (.int .i64 0) := (Tx.blk KR.out).1 6; have z7 : w5.cell? ⟨w.heap.size, 7, none⟩ = some (.bool false) := (Tx.blk KR.out).1 7; have zf : ∀ i, w5.frozen? ⟨w.heap.size, i, none⟩ = false := (Tx.blk KR.out).2.1))
    | (go_at_call 89; ((with_reducible refine (hisn.out w3).mono ?_); rintro e w4 ⟨rfl, hb4⟩; have k4 := Tx.step k3 hb4; replace KR := Lib.hid (Tx.blk_later KR.out hb4); have t0_4 := cell_later k4 T0.out; have t1_4 := cell_later k4 T1.out; have t2_4 := cell_later k4 T2.out; have n0_4 := cell_later k4 N0.out; have n1_4 := cell_later k4 N1.out; have n2_4 := cell_later k4 N2.out; have m2_4 := cell_later k4 M2.out))
    | (go_at_call 78; ((with_reducible refine (hst.out _).mono ?_); rintro e w3 ⟨rfl, hb3⟩; have k3 := Tx.step k2 hb3; replace KR := Lib.hid (Tx.blk_later KR.out hb3); have t0_3 := cell_later k3 T0.out; have t1_3 := cell_later k3 T1.out; have t2_3 := cell_later k3 T2.out; have n0_3 := cell_later k3 N0.out; have n1_3 := cell_later k3 N1.out; have n2_3 := cell_later k3 N2.out))
    | (go_at_call 89; ((with_reducible refine (his.out _).mono ?_); rintro e w2 ⟨rfl, hb2⟩; have k2 := Tx.step hB hb2; replace KR := Lib.hid (Tx.blk_later KR.out hb2); have t0_2 := cell_later k2 T0.out; have t1_2 := cell_later k2 T1.out; have t2_2 := cell_later k2 T2.out)))
  have hsz : w.heap.size < w4.heap.size := by have := HS1.out; have := hb2.size; have := hb3.size; have := hb4.size; omega
  exact bodyPost_ret (v := .agg #[.int .i64 po, .int .i64 pf, .slice psa psn psc, .int .i64 pa, .int .i64 pb, .slice pka pkn pkc, .int .i64 pn, .bool pz]) (by simp [results, Tryz.results88, go_sem, z0, z1, z2, z3, z4, z5, z6, z7]) rfl (HHR.out.carry (by omega) (Qr.put8 k5 (Nat.le_refl _) _ _ _ _ _ _ _ _) ((Qr.Kp.refl _ _).put8 (by omega) _ _ _ _ _ _ _ _))

set_option maxHeartbeats 6400000 in
theorem pp_f_nofield (toks r : List Qr.Tok) (b o c : Nat) (w : World) (h : Qr.RT w toks b o c) (hr : r <:+ toks) (tk : UInt8) (tt : List UInt8) (tg : Bool) (ht : Qr.lk r = ⟨tk, tt, tg⟩) (h2 : tk = 114) (hw : Qr.anyOp ⟨tk, tt, tg⟩ = false) (h5 : (Qr.lk r.tail).k = 58) (h6 : (Qr.lk r.tail).g = true) (h7 : (Qr.lk r.tail.tail).g = true) (h8 : tt ≠ [121, 101, 97, 114]) (h9 : Qr.fieldOf tt = none) :
    Calls Tryz.prog 88 #[.slice (some ⟨b, o, none⟩) (toks.length + 1) c, .int .i64 ((toks.length - r.length : Nat) : Int)] w (Qr.RRes toks (none) w) := by
  have hleg := h.leg hr
  rw [ht] at hleg
  obtain ⟨t0, t1, t2⟩ := h.at_ r hr
  rw [ht] at t0 t1 t2
  simp only at t0 t1 t2
  have hrl := hr.length_le
  have hlen := h.len
  have hbl := h.lt
  have hcap := h.cap
  have hmax := h.max
  have hmx : maxLen = 9223372036854775807 := rfl
  have his := Lib.hid (fun w => r21_is_c ⟨tk, tt, tg⟩ hleg 40 (by simp) w)
  have hst := Lib.hid (fun w => r21_starts_c ⟨tk, tt, tg⟩ hleg w)
  simp only at his hst
  have hk0 : tk ≠ 0 := by rw [h2]; decide
  obtain ⟨⟨nk, nt, ng⟩, hnx⟩ : ∃ t, Qr.lk r.tail = t := ⟨_, rfl⟩
  have hta := Qr.tail_at hr (by rw [ht]; exact hk0)
  have hlegn := h.leg (Qr.tail_suf hr)
  rw [hnx] at hlegn
  obtain ⟨n0, n1, n2⟩ := h.at_ r.tail (Qr.tail_suf hr)
  rw [hnx, hta] at n0 n1 n2
  simp only at n0 n1 n2
  have hsf := (Qr.tail_suf hr).length_le
  have hte := (Qr.tail_eats (r := r) (by rw [ht]; exact hk0)).2
  have hisn := Lib.hid (fun w => r21_is_c ⟨nk, nt, ng⟩ hlegn 58 (by simp) w)
  simp only at hisn
  have hta2 := Qr.tail_at (Qr.tail_suf hr) (by rw [h5]; simp)
  have hsuf2 := Qr.tail_suf (Qr.tail_suf hr)
  obtain ⟨m0, m1, m2⟩ := h.at_ r.tail.tail hsuf2
  rw [h7, hta2, hta] at m2
  rw [hta2, hta] at m0 m1
  have hsl2 := hsuf2.length_le
  have hte2 := (Qr.tail_eats (r := r.tail) (by rw [h5]; simp)).2
  rw [show (tk == 40) = false by rw [h2]; rfl] at his
  rw [show Qr.beg ⟨tk, tt, tg⟩ = true by rw [h2] at hw ⊢; unfold Qr.beg; rw [hw]; rfl] at hst
  rw [hnx] at h5 h6
  simp only at h5 h6
  rw [show (nk == 58) = true by rw [h5]; rfl] at hisn
  have hxt : (⟨(Qr.tx ⟨tk, tt, tg⟩).toArray⟩ : ByteArray) = ⟨tt.toArray⟩ := by unfold Qr.tx; rw [if_pos (.inr h2)]
  obtain ⟨A, hA⟩ : ∃ A, toks.length - r.length = A := ⟨_, rfl⟩
  rw [hA] at t0 t1 t2 n0 n1 n2 m0 m1 m2 ⊢
  have HA := Lib.hid hA
  have hA1 : A ≤ toks.length := by omega
  obtain ⟨X, hX⟩ : ∃ X : ByteArray, (⟨(Qr.tx ⟨tk, tt, tg⟩).toArray⟩ : ByteArray) = X := ⟨_, rfl⟩
  obtain ⟨K, hK⟩ : ∃ K, Qr.kR tk = K := ⟨_, rfl⟩
  rw [hX] at t1 his hst
  rw [hK] at t0 his hst
  have HH := Lib.hid h
  have T0 := Lib.hid t0; have T1 := Lib.hid t1; have T2 := Lib.hid t2
  have hAl : A < toks.length := by omega
  obtain ⟨NX, hNX⟩ : ∃ X : ByteArray, (⟨(Qr.tx ⟨nk, nt, ng⟩).toArray⟩ : ByteArray) = X := ⟨_, rfl⟩
  obtain ⟨NK, hNK⟩ : ∃ K, Qr.kR nk = K := ⟨_, rfl⟩
  rw [hNX] at n1 hisn
  rw [hNK] at n0 hisn
  have N0 := Lib.hid n0; have N1 := Lib.hid n1; have N2 := Lib.hid n2
  have hAl2 : A + 1 < toks.length := by omega
  have hKl : K = 1 := by rw [← hK, h2]; rfl
  subst hKl
  subst h6
  rw [hX] at hxt
  have hyb : (X.toList == [121, 101, 97, 114]) = false := by rw [hxt, Lib.toList_data]; simpa using h8
  have hfo := Lib.hid (fun w => r21_fieldOf_c X w)
  rw [show Qr.fldN X.data.toList = -1 by rw [hxt]; unfold Qr.fldN; rw [show (⟨tt.toArray⟩ : ByteArray).data.toList = tt from rfl, h9]] at hfo
  have M2 := Lib.hid m2
  clear hX hxt hK hNX hNK ht hnx h2 hleg hlegn hA hta hta2 hk0 n0 n1 n2 m0 m1 m2 h7 hw h5 h8 h9
  clear t0 t1 t2 h
  obtain ⟨W, hW⟩ : ∃ W, w.alloc (.cells Qr.zeroP 52) = W := ⟨_, rfl⟩
  have hB : Below w.heap.size w W := by rw [← hW]; exact Tx.newb _ _
  have hs1 : W.heap.size = w.heap.size + 1 := by rw [← hW]; simp
  have HS1 := Lib.hid hs1; clear hs1
  have KR : Hid (W.heap[w.heap.size]? = some (.cells Qr.zeroP 52 (0, 0))) := Lib.hid (by rw [← hW]; exact heap_alloc_new w _)
  have t0_1 := cell_later hB T0.out
  have t1_1 := cell_later hB T1.out
  have t2_1 := cell_later hB T2.out
  go_enter Tryz.func88, Tryz.ntmps88
  go_wp2_with (first
    | (go_at_call 99; ((with_reducible refine (hfo.out _).mono ?_); rintro e w5 ⟨rfl, hb5⟩; have k5 := Tx.step k4 hb5; replace KR := Lib.hid (Tx.blk_later KR.out hb5); have t0_5 := cell_later k5 T0.out; have t1_5 := cell_later k5 T1.out; have t2_5 := cell_later k5 T2.out; have z0 : w5.cell? ⟨w.heap.size, 0, none⟩ = some (.int .i64 0) := (Tx.blk KR.out).1 0; have z1 : w5.cell? ⟨w.heap.size, 1, none⟩ = some (.int .i64 0) := (Tx.blk KR.out).1 1; have z2 : w5.cell? ⟨w.heap.size, 2, none⟩ = some (.slice none 0 0) := (Tx.blk KR.out).1 2; have z3 : w5.cell? ⟨w.heap.size, 3, none⟩ = some (.int .i64 0) := (Tx.blk KR.out).1 3; have z4 : w5.cell? ⟨w.heap.size, 4, none⟩ = some (.int .i64 0) := (Tx.blk KR.out).1 4; have z5 : w5.cell? ⟨w.heap.size, 5, none⟩ = some (.slice none 0 0) := (Tx.blk KR.out).1 5; have z6 : w5.cell? ⟨w.heap.size, 6, none⟩ = some (.int .i64 0) := (Tx.blk KR.out).1 6; have z7 : w5.cell? ⟨w.heap.size, 7, none⟩ = some (.bool false) := (Tx.blk KR.out).1 7; have zf : ∀ i, w5.frozen? ⟨w.heap.size, i, none⟩ = false := (Tx.blk KR.out).2.1))
    | (go_at_call 89; ((with_reducible refine (hisn.out w3).mono ?_); rintro e w4 ⟨rfl, hb4⟩; have k4 := Tx.step k3 hb4; replace KR := Lib.hid (Tx.blk_later KR.out hb4); have t0_4 := cell_later k4 T0.out; have t1_4 := cell_later k4 T1.out; have t2_4 := cell_later k4 T2.out; have n0_4 := cell_later k4 N0.out; have n1_4 := cell_later k4 N1.out; have n2_4 := cell_later k4 N2.out; have m2_4 := cell_later k4 M2.out))
    | (go_at_call 78; ((with_reducible refine (hst.out _).mono ?_); rintro e w3 ⟨rfl, hb3⟩; have k3 := Tx.step k2 hb3; replace KR := Lib.hid (Tx.blk_later KR.out hb3); have t0_3 := cell_later k3 T0.out; have t1_3 := cell_later k3 T1.out; have t2_3 := cell_later k3 T2.out; have n0_3 := cell_later k3 N0.out; have n1_3 := cell_later k3 N1.out; have n2_3 := cell_later k3 N2.out))
    | (go_at_call 89; ((with_reducible refine (his.out _).mono ?_); rintro e w2 ⟨rfl, hb2⟩; have k2 := Tx.step hB hb2; replace KR := Lib.hid (Tx.blk_later KR.out hb2); have t0_2 := cell_later k2 T0.out; have t1_2 := cell_later k2 T1.out; have t2_2 := cell_later k2 T2.out)))
  exact bodyPost_ret (v := .agg #[.int .i64 0, .int .i64 0, .slice none 0 0, .int .i64 0, .int .i64 0, .slice none 0 0, .int .i64 0, .bool false]) (by simp [results, Tryz.results88, go_sem, z0, z1, z2, z3, z4, z5, z6, z7]) rfl (Qr.RRes.mk_none (Qr.put8 k5 (Nat.le_refl _) _ _ _ _ _ _ _ _))

set_option maxHeartbeats 6400000 in
theorem pp_f_field (toks r : List Qr.Tok) (b o c : Nat) (w : World) (h : Qr.RT w toks b o c) (hr : r <:+ toks) (tk : UInt8) (tt : List UInt8) (tg : Bool) (ht : Qr.lk r = ⟨tk, tt, tg⟩) (h2 : tk = 114) (hw : Qr.anyOp ⟨tk, tt, tg⟩ = false) (h5 : (Qr.lk r.tail).k = 58) (h6 : (Qr.lk r.tail).g = true) (h7 : (Qr.lk r.tail.tail).g = true) (h8 : tt ≠ [121, 101, 97, 114]) (f : Int) (h9 : Qr.fieldOf tt = some f) (hf : 0 ≤ f) :
    Calls Tryz.prog 88 #[.slice (some ⟨b, o, none⟩) (toks.length + 1) c, .int .i64 ((toks.length - r.length : Nat) : Int)] w (Qr.RRes toks (Qr.pTerm false f r.tail.tail) w) := by
  have hleg := h.leg hr
  rw [ht] at hleg
  obtain ⟨t0, t1, t2⟩ := h.at_ r hr
  rw [ht] at t0 t1 t2
  simp only at t0 t1 t2
  have hrl := hr.length_le
  have hlen := h.len
  have hbl := h.lt
  have hcap := h.cap
  have hmax := h.max
  have hmx : maxLen = 9223372036854775807 := rfl
  have his := Lib.hid (fun w => r21_is_c ⟨tk, tt, tg⟩ hleg 40 (by simp) w)
  have hst := Lib.hid (fun w => r21_starts_c ⟨tk, tt, tg⟩ hleg w)
  simp only at his hst
  have hk0 : tk ≠ 0 := by rw [h2]; decide
  obtain ⟨⟨nk, nt, ng⟩, hnx⟩ : ∃ t, Qr.lk r.tail = t := ⟨_, rfl⟩
  have hta := Qr.tail_at hr (by rw [ht]; exact hk0)
  have hlegn := h.leg (Qr.tail_suf hr)
  rw [hnx] at hlegn
  obtain ⟨n0, n1, n2⟩ := h.at_ r.tail (Qr.tail_suf hr)
  rw [hnx, hta] at n0 n1 n2
  simp only at n0 n1 n2
  have hsf := (Qr.tail_suf hr).length_le
  have hte := (Qr.tail_eats (r := r) (by rw [ht]; exact hk0)).2
  have hisn := Lib.hid (fun w => r21_is_c ⟨nk, nt, ng⟩ hlegn 58 (by simp) w)
  simp only at hisn
  have hta2 := Qr.tail_at (Qr.tail_suf hr) (by rw [h5]; simp)
  have hsuf2 := Qr.tail_suf (Qr.tail_suf hr)
  obtain ⟨m0, m1, m2⟩ := h.at_ r.tail.tail hsuf2
  rw [h7, hta2, hta] at m2
  rw [hta2, hta] at m0 m1
  have hsl2 := hsuf2.length_le
  have hte2 := (Qr.tail_eats (r := r.tail) (by rw [h5]; simp)).2
  have hsub := fun w h => r21_parseTerm_c toks r.tail.tail b o c f w h hsuf2
  rw [hta2, hta, show ((toks.length - r.length + 1 + 1 : Nat) : Int) = ((toks.length - r.length : Nat) : Int) + 2 by omega] at hsub
  rw [show (tk == 40) = false by rw [h2]; rfl] at his
  rw [show Qr.beg ⟨tk, tt, tg⟩ = true by rw [h2] at hw ⊢; unfold Qr.beg; rw [hw]; rfl] at hst
  rw [hnx] at h5 h6
  simp only at h5 h6
  rw [show (nk == 58) = true by rw [h5]; rfl] at hisn
  have hxt : (⟨(Qr.tx ⟨tk, tt, tg⟩).toArray⟩ : ByteArray) = ⟨tt.toArray⟩ := by unfold Qr.tx; rw [if_pos (.inr h2)]
  obtain ⟨A, hA⟩ : ∃ A, toks.length - r.length = A := ⟨_, rfl⟩
  rw [hA] at t0 t1 t2 n0 n1 n2 m0 m1 m2 hsub ⊢
  have HA := Lib.hid hA
  have hA1 : A ≤ toks.length := by omega
  obtain ⟨X, hX⟩ : ∃ X : ByteArray, (⟨(Qr.tx ⟨tk, tt, tg⟩).toArray⟩ : ByteArray) = X := ⟨_, rfl⟩
  obtain ⟨K, hK⟩ : ∃ K, Qr.kR tk = K := ⟨_, rfl⟩
  rw [hX] at t1 his hst
  rw [hK] at t0 his hst
  have HH := Lib.hid h
  have T0 := Lib.hid t0; have T1 := Lib.hid t1; have T2 := Lib.hid t2
  have hAl : A < toks.length := by omega
  obtain ⟨NX, hNX⟩ : ∃ X : ByteArray, (⟨(Qr.tx ⟨nk, nt, ng⟩).toArray⟩ : ByteArray) = X := ⟨_, rfl⟩
  obtain ⟨NK, hNK⟩ : ∃ K, Qr.kR nk = K := ⟨_, rfl⟩
  rw [hNX] at n1 hisn
  rw [hNK] at n0 hisn
  have N0 := Lib.hid n0; have N1 := Lib.hid n1; have N2 := Lib.hid n2
  have hAl2 : A + 1 < toks.length := by omega
  have hKl : K = 1 := by rw [← hK, h2]; rfl
  subst hKl
  subst h6
  rw [hX] at hxt
  have hyb : (X.toList == [121, 101, 97, 114]) = false := by rw [hxt, Lib.toList_data]; simpa using h8
  have hfo := Lib.hid (fun w => r21_fieldOf_c X w)
  rw [show Qr.fldN X.data.toList = f by rw [hxt]; unfold Qr.fldN; rw [show (⟨tt.toArray⟩ : ByteArray).data.toList = tt from rfl, h9]] at hfo
  obtain ⟨PT, hPT⟩ : ∃ x, Qr.pTerm false f r.tail.tail = x := ⟨_, rfl⟩
  rw [hPT] at hsub ⊢
  have HTM := Lib.hid hsub
  clear hsub hPT
  have M2 := Lib.hid m2
  clear hX hxt hK hNX hNK ht hnx h2 hleg hlegn hA hta hta2 hk0 n0 n1 n2 m0 m1 m2 h7 hw h5 h8 h9
  clear t0 t1 t2 h
  obtain ⟨W, hW⟩ : ∃ W, w.alloc (.cells Qr.zeroP 52) = W := ⟨_, rfl⟩
  have hB : Below w.heap.size w W := by rw [← hW]; exact Tx.newb _ _
  have hs1 : W.heap.size = w.heap.size + 1 := by rw [← hW]; simp
  have HS1 := Lib.hid hs1; clear hs1
  have KR : Hid (W.heap[w.heap.size]? = some (.cells Qr.zeroP 52 (0, 0))) := Lib.hid (by rw [← hW]; exact heap_alloc_new w _)
  have t0_1 := cell_later hB T0.out
  have t1_1 := cell_later hB T1.out
  have t2_1 := cell_later hB T2.out
  go_enter Tryz.func88, Tryz.ntmps88
  go_wp2_with (first
    | (go_at_call 97; ((with_reducible refine (HTM.out w5 (HH.out.below k5)).mono ?_); rintro e w6 hh; obtain ⟨po, pf, pa, pb, psa, psn, psc, pka, pkn, pkc, pn, pz, rfl, hb6⟩ := hh.vals; have HHR := Lib.hid hh; clear hh; have k6 := Tx.step k5 hb6; replace KR := Lib.hid (Tx.blk_later KR.out hb6); have z0 : w6.cell? ⟨w.heap.size, 0, none⟩ = some (.int .i64 0) := (Tx.blk KR.out).1 0; have z1 : w6.cell? ⟨w.heap.size, 1, none⟩ = some (.int .i64 0) := (Tx.blk KR.out).1 1; have z2 : w6.cell? ⟨w.heap.size, 2, none⟩ = some (.slice none 0 0) := (Tx.blk KR.out).1 2; have z3 : w6.cell? ⟨w.heap.size, 3, none⟩ = some (.int .i64 0) := (Tx.blk KR.out).1 3; have z4 : w6.cell? ⟨w.heap.size, 4, none⟩ = some (.int .i64 0) := (Tx.blk KR.out).1 4; have z5 : w6.cell? ⟨w.heap.size, 5, none⟩ = some (.slice none 0 0) := (Tx.blk KR.out).1 5; have z6 : w6.cell? ⟨w.heap.size, 6, none⟩ = some (.int .i64 0) := (Tx.blk KR.out).1 6; have z7 : w6.cell? ⟨w.heap.size, 7, none⟩ = some (.bool false) := (Tx.blk KR.out).1 7; have zf : ∀ i, w6.frozen? ⟨w.heap.size, i, none⟩ = false := (Tx.blk KR.out).2.1))
    | (go_at_call 99; ((with_reducible refine (hfo.out _).mono ?_); rintro e w5 ⟨rfl, hb5⟩; have k5 := Tx.step k4 hb5; replace KR := Lib.hid (Tx.blk_later KR.out hb5); have t0_5 := cell_later k5 T0.out; have t1_5 := cell_later k5 T1.out; have t2_5 := cell_later k5 T2.out))
    | (go_at_call 89; ((with_reducible refine (hisn.out w3).mono ?_); rintro e w4 ⟨rfl, hb4⟩; have k4 := Tx.step k3 hb4; replace KR := Lib.hid (Tx.blk_later KR.out hb4); have t0_4 := cell_later k4 T0.out; have t1_4 := cell_later k4 T1.out; have t2_4 := cell_later k4 T2.out; have n0_4 := cell_later k4 N0.out; have n1_4 := cell_later k4 N1.out; have n2_4 := cell_later k4 N2.out; have m2_4 := cell_later k4 M2.out))
    | (go_at_call 78; ((with_reducible refine (hst.out _).mono ?_); rintro e w3 ⟨rfl, hb3⟩; have k3 := Tx.step k2 hb3; replace KR := Lib.hid (Tx.blk_later KR.out hb3); have t0_3 := cell_later k3 T0.out; have t1_3 := cell_later k3 T1.out; have t2_3 := cell_later k3 T2.out; have n0_3 := cell_later k3 N0.out; have n1_3 := cell_later k3 N1.out; have n2_3 := cell_later k3 N2.out))
    | (go_at_call 89; ((with_reducible refine (his.out _).mono ?_); rintro e w2 ⟨rfl, hb2⟩; have k2 := Tx.step hB hb2; replace KR := Lib.hid (Tx.blk_later KR.out hb2); have t0_2 := cell_later k2 T0.out; have t1_2 := cell_later k2 T1.out; have t2_2 := cell_later k2 T2.out)))
  have hsz : w.heap.size < w5.heap.size := by have := HS1.out; have := hb2.size; have := hb3.size; have := hb4.size; have := hb5.size; omega
  exact bodyPost_ret (v := .agg #[.int .i64 po, .int .i64 pf, .slice psa psn psc, .int .i64 pa, .int .i64 pb, .slice pka pkn pkc, .int .i64 pn, .bool pz]) (by simp [results, Tryz.results88, go_sem, z0, z1, z2, z3, z4, z5, z6, z7]) rfl (HHR.out.carry (by omega) (Qr.put8 k6 (Nat.le_refl _) _ _ _ _ _ _ _ _) ((Qr.Kp.refl _ _).put8 (by omega) _ _ _ _ _ _ _ _))

end Go.Proofs.YtkahplbjbidemaaGreatDoor
