/- The reference reads parts, one after the other: what parseAnd returns. -/
import Derived.Test.YtkahplbjbidemaaGreatDoorQmJ
namespace Go.Proofs.YtkahplbjbidemaaGreatDoor
open Go.RowKit
set_option maxRecDepth 100000

set_option maxHeartbeats 4000000 in
theorem r21_and_c (toks : List Qr.Tok) (b o c n : Nat) (hSub : ∀ (m : Nat) (r : List Qr.Tok) (w : World), m ≤ n → 8 * r.length + 5 ≤ m → r <:+ toks → Qr.RT w toks b o c → Calls Tryz.prog 77 #[.slice (some ⟨b, o, none⟩) (toks.length + 1) c, .int .i64 ((toks.length - r.length : Nat) : Int)] w (Qr.RRes toks (Qr.pNot false m r) w))
    (r : List Qr.Tok) (w : World) (hn : 8 * r.length + 6 ≤ n + 1) (hr : r <:+ toks) (h : Qr.RT w toks b o c) :
    Calls Tryz.prog 54 #[.slice (some ⟨b, o, none⟩) (toks.length + 1) c, .int .i64 ((toks.length - r.length : Nat) : Int)] w (Qr.RRes toks (Qr.pAnd false (n + 1) r) w) := by
  obtain ⟨i0, hi0, hz0, hz1, hz2⟩ := info_parts info_qy
  have HI := Lib.hid hi0; clear hi0
  have hlen := h.len
  have hbl := h.lt
  have hcap := h.cap
  have hmax := h.max
  have hmx : maxLen = 9223372036854775807 := rfl
  have hrl := hr.length_le
  have HH := Lib.hid h
  obtain ⟨x0, hx0⟩ : ∃ x, Qr.pNot false n r = x := ⟨_, rfl⟩
  have h0 := fun w h => hSub n r w (Nat.le_refl _) (by omega) hr h
  rw [hx0] at h0
  have he0 := (Qr.eats_all false n).2.2.2.2.1 r
  have hb0 := (Qr.nodes_all false n).2.2.2.2.1 r
  rw [hx0] at he0 hb0
  obtain ⟨X, hX⟩ : ∃ X, Qr.pAnd false (n + 1) r = X := ⟨_, rfl⟩
  have hXe : X = Qr.next x0 (fun q r' => Qr.lAnd false n [q] r') := by rw [← hX, Qr.pAnd, hx0]; rfl
  rw [hX]
  obtain ⟨A, hA⟩ : ∃ A, toks.length - r.length = A := ⟨_, rfl⟩
  rw [hA] at h0 ⊢
  have HS0 := Lib.hid h0; have HE0 := Lib.hid he0; have HB0 := Lib.hid hb0; have HX0 := Lib.hid hXe; have HSUB := Lib.hid hSub
  clear h0 he0 hb0 hXe hX hx0 hA hSub h
  obtain ⟨W, hW⟩ : ∃ W, w.alloc (.cells Qr.zeroP 52) = W := ⟨_, rfl⟩
  have hB : Below w.heap.size w W := by rw [← hW]; exact Tx.newb _ _
  have hs1 : W.heap.size = w.heap.size + 1 := by rw [← hW]; simp
  have KR : Hid (W.heap[w.heap.size]? = some (.cells Qr.zeroP 52 (0, 0))) := Lib.hid (by rw [← hW]; exact heap_alloc_new w _)
  have HS1 := Lib.hid hs1; clear hs1
  have hB1 : Below w.heap.size w (W.alloc (.cells #[] 25)) := hB.alloc hB.size _
  go_enter Tryz.func54, Tryz.ntmps54
  go_wp2_with (go_at_call 77; ((with_reducible refine (HS0.out _ (HH.out.below hB1)).mono ?_); rintro e w1 hh; obtain ⟨po, pf, pa, pb, psa, psn, psc, pka, pkn, pkc, pn, pz, rfl, hb1⟩ := hh.vals; have HHR := Lib.hid hh; clear hh))
  have s1 := hb1.size
  rw [World.size_alloc] at s1
  have hk1 : Below w.heap.size w w1 := Tx.step hB1 hb1
  have kR1 := Tx.blk_later (Tx.blk_later KR.out (Tx.newb W (.cells #[] 25))) hb1
  have KR1 := Lib.hid kR1; clear kR1
  clear hW
  go_loopw [5] (fun v wr => ∃ (m : Nat) (acc : List Qr.Qy) (T : List Qr.QT) (po pf pa pb : Int) (psa : Option Addr) (psn psc : Nat) (pka : Option Addr) (pkn pkc : Nat) (pn : Int) (pz : Bool), m ≤ n ∧ Hid (Qr.GS toks r (w.heap.size + 1) w1.heap.size wr v.ownBlock X (Qr.lAnd false) 6 m acc (⟨po, pf, psa, psn, psc, pa, pb, pka, pkn, pkc⟩ : Qr.QT) pn pz) ∧ Qr.HD (w.heap.size + 1) w1.heap.size wr v.ownBlock acc T ∧ wr.ownsRow (w.heap.size + 1) 25 6 v T.length (T.flatMap Qr.encQ) ∧ v.ownBlock ≠ some w1.heap.size ∧ wr.heap[w1.heap.size]? = some (.cells #[.int .i64 po, .int .i64 pf, .slice psa psn psc, .int .i64 pa, .int .i64 pb, .slice pka pkn pkc, .int .i64 pn, .bool pz] 52 (0, 0)) ∧ wr.heap[w.heap.size]? = some (.cells Qr.zeroP 52 (0, 0)) ∧ Below w.heap.size w wr) (fun _ w => Qr.ms w1.heap.size toks.length w)
  case atStart =>
    have e1 := HS1.out
    refine ⟨n, [], [], po, pf, pa, pb, psa, psn, psc, pka, pkn, pkc, pn, pz, Nat.le_refl _, Lib.hid ?_, Qr.HD.nil _ _ _ _, ?_, ?_, heap_alloc_new w1 _, Tx.blk_later KR1.out (Tx.newb w1 _), hk1.alloc hk1.size _⟩
    · rcases HHR.out.two with ⟨rfl, hx⟩ | ⟨rfl, q, r1, hx, hpn, hq⟩
      · exact .inl ⟨rfl, by rw [HX0.out, hx]; rfl⟩
      · have hea := HE0.out q r1 hx
        refine .inr ⟨rfl, q, r1, hea.1.trans hr, hpn, by have := hea.2; omega, by rw [HX0.out, hx]; rfl, ⟨_, w1, hq, Qr.Kp.below (Tx.newb w1 _), fun b hb => .inl ?_, .inr (Nat.le_refl _), by rw [World.size_alloc]; omega⟩, ?_⟩
        · have h9 : w.heap.size + 1 = b ∨ W.heap.size = b := by first | (left; simpa [Value.ownBlock] using hb) | (right; simpa [Value.ownBlock] using hb)
          rw [World.size_alloc]
          omega
        · have := HB0.out q r1 hx
          simp only [Qr.nodesL, List.length_nil]
          omega
    · have h9 := World.ownsRow_lit (base := w.heap.size + 1) (e := 25) (size := 6) W #[] 0 (by omega) (by unfold maxLen; omega) rfl
      exact (own_below h9 hb1).alloc _
    · intro h9
      have h8 : W.heap.size = w1.heap.size := by simpa [Value.ownBlock] using h9
      omega
  case round =>
    obtain ⟨m, acc, T, po, pf, pa, pb, psa, psn, psc, pka, pkn, pkc, pn, pz, hm, hGS, hHD, hown, hnP, hP, hR, hb⟩ := hrel
    have hTl := hHD.1
    have hPl := (Array.getElem?_eq_some_iff.1 hP).1
    have hwr : w.heap.size + 2 ≤ w1.heap.size := by have := HS1.out; omega
    have hms := Qr.ms_of (N := toks.length) hP
    obtain ⟨va, vc, rfl, hka⟩ := hHD.ka hown
    have hownb : ∀ b, (Value.slice va acc.length vc).ownBlock = some b → w.heap.size + 1 ≤ b ∧ b < wr.heap.size := fun b hb => hown.lt b hb
    have HOW := Lib.hid hownb; clear hownb
    have HMS := Lib.hid hms; clear hms
    have HNP := Lib.hid hnP; clear hnP
    have HPB := Lib.hid hP; have HRB := Lib.hid hR
    clear hP hR hka
    have x0 : wr.cell? ⟨w1.heap.size, 0, none⟩ = some (.int .i64 po) := (Tx.blk HPB.out).1 0
    have x1 : wr.cell? ⟨w1.heap.size, 1, none⟩ = some (.int .i64 pf) := (Tx.blk HPB.out).1 1
    have x2 : wr.cell? ⟨w1.heap.size, 2, none⟩ = some (.slice psa psn psc) := (Tx.blk HPB.out).1 2
    have x3 : wr.cell? ⟨w1.heap.size, 3, none⟩ = some (.int .i64 pa) := (Tx.blk HPB.out).1 3
    have x4 : wr.cell? ⟨w1.heap.size, 4, none⟩ = some (.int .i64 pb) := (Tx.blk HPB.out).1 4
    have x5 : wr.cell? ⟨w1.heap.size, 5, none⟩ = some (.slice pka pkn pkc) := (Tx.blk HPB.out).1 5
    have x6 : wr.cell? ⟨w1.heap.size, 6, none⟩ = some (.int .i64 pn) := (Tx.blk HPB.out).1 6
    have x7 : wr.cell? ⟨w1.heap.size, 7, none⟩ = some (.bool pz) := (Tx.blk HPB.out).1 7
    rcases hGS.out with ⟨rfl, hXn⟩ | ⟨rfl, q, r1, hs1, hpn, hmr, hXq, hHd, hnd⟩
    · have HXN := Lib.hid hXn; clear hXn
      have z0 : wr.cell? ⟨w.heap.size, 0, none⟩ = some (.int .i64 0) := (Tx.blk HRB.out).1 0
      have z1 : wr.cell? ⟨w.heap.size, 1, none⟩ = some (.int .i64 0) := (Tx.blk HRB.out).1 1
      have z2 : wr.cell? ⟨w.heap.size, 2, none⟩ = some (.slice none 0 0) := (Tx.blk HRB.out).1 2
      have z3 : wr.cell? ⟨w.heap.size, 3, none⟩ = some (.int .i64 0) := (Tx.blk HRB.out).1 3
      have z4 : wr.cell? ⟨w.heap.size, 4, none⟩ = some (.int .i64 0) := (Tx.blk HRB.out).1 4
      have z5 : wr.cell? ⟨w.heap.size, 5, none⟩ = some (.slice none 0 0) := (Tx.blk HRB.out).1 5
      have z6 : wr.cell? ⟨w.heap.size, 6, none⟩ = some (.int .i64 0) := (Tx.blk HRB.out).1 6
      have z7 : wr.cell? ⟨w.heap.size, 7, none⟩ = some (.bool false) := (Tx.blk HRB.out).1 7
      have zf : ∀ i, wr.frozen? ⟨w.heap.size, i, none⟩ = false := (Tx.blk HRB.out).2.1
      go_wp2
      exact bodyPost_ret (v := .agg #[.int .i64 0, .int .i64 0, .slice none 0 0, .int .i64 0, .int .i64 0, .slice none 0 0, .int .i64 0, .bool false]) (by simp [results, Tryz.results54, go_sem, z0, z1, z2, z3, z4, z5, z6, z7]) rfl (by rw [HXN.out]; exact Qr.RRes.mk_none (Qr.put8 hb (Nat.le_refl _) _ _ _ _ _ _ _ _))
    · obtain ⟨k, hk⟩ : ∃ k, m = k + 1 := ⟨m - 1, by omega⟩
      subst hk
      have hs1l := hs1.length_le
      obtain ⟨A1, hA1⟩ : ∃ A, toks.length - r1.length = A := ⟨_, rfl⟩
      rw [hA1] at hpn
      subst hpn
      have hA1l : A1 ≤ toks.length := by omega
      obtain ⟨c0, c1, c2⟩ := HH.out.at_ r1 hs1
      rw [hA1] at c0 c1 c2
      have hlegc := HH.out.leg hs1
      have hop := fun w => r21_op_c (Qr.lk r1) hlegc Qr.andB w
      have hst := fun w => r21_starts_c (Qr.lk r1) hlegc w
      rw [Qr.beg_lk] at hst
      obtain ⟨CX, hCX⟩ : ∃ X : ByteArray, (⟨(Qr.tx (Qr.lk r1)).toArray⟩ : ByteArray) = X := ⟨_, rfl⟩
      obtain ⟨CK, hCK⟩ : ∃ K, Qr.kR (Qr.lk r1).k = K := ⟨_, rfl⟩
      obtain ⟨CG, hCG⟩ : ∃ K, (Qr.lk r1).g = K := ⟨_, rfl⟩
      rw [hCX, hCK, hCG] at hop hst
      rw [hCX] at c1
      rw [hCK] at c0
      rw [hCG] at c2
      have hOP : ∀ w, Calls Tryz.prog 55 #[.agg #[.int .i64 CK, .string CX, .bool CG], .string ⟨#[65, 78, 68]⟩] w fun e w' => e = .returned (.bool (Qr.isOp Qr.andB r1)) ∧ Below w.heap.size w w' := hop
      have C0 := Lib.hid c0; have C1 := Lib.hid c1; have C2 := Lib.hid c2
      have HA1 := Lib.hid hA1
      have HD1 := Lib.hid hHd
      have HDD := Lib.hid hHD
      clear c0 c1 c2 hCX hCK hCG hop hHd hHD hlegc hGS
      have hTb : T.length ≤ 100000 := by
        rw [hTl]
        have := Qr.ks_nodes acc
        omega
      by_cases hi : Qr.isOp Qr.andB r1 = true
      · rw [hi] at hOP
        have hte := Qr.tail_eats (Qr.isOp_ne hi)
        have hta := Qr.tail_at hs1 (Qr.isOp_ne hi)
        have hsub := fun w h => HSUB.out k r1.tail w (by omega) (by have := hte.2; omega) (Qr.tail_suf hs1) h
        obtain ⟨xs, hxs⟩ : ∃ x, Qr.pNot false k r1.tail = x := ⟨_, rfl⟩
        rw [hxs] at hsub
        have hes := (Qr.eats_all false k).2.2.2.2.1 r1.tail
        have hns := (Qr.nodes_all false k).2.2.2.2.1 r1.tail
        rw [hxs] at hes hns
        rw [hta, hA1, show ((A1 + 1 : Nat) : Int) = (A1 : Int) + 1 by omega] at hsub
        have hA1s : A1 < toks.length := by have := hte.2; have := (Qr.tail_suf hs1).length_le; omega
        have HXS : Hid (X = Qr.next xs (fun q2 r2 => Qr.lAnd false k (acc ++ [q] ++ [q2]) r2)) := Lib.hid (by rw [← hXq, Qr.lAnd, if_pos hi, hxs]; rfl)
        have HRS : Hid (r1.tail <:+ toks ∧ r1.tail.length + 1 ≤ r1.length) := Lib.hid ⟨Qr.tail_suf hs1, hte.2⟩
        have HOP := Lib.hid hOP; have HS := Lib.hid hsub; have HES := Lib.hid hes; have HNS := Lib.hid hns
        clear hOP hst hsub hes hns hxs hXq hta hte hi hA1
        go_wp2_with (first
          | (at_builtin; go_must (refine wpList_append_sl rfl _ _ 23 rfl (w.heap.size + 1) 25 i0 _ 6 80 Tryz.underlying23 HI.out hz0 hz1 hz2 rfl (by decide) _ T.length _ rfl (hown.alloc _) (some ⟨_, 0, none⟩) 1 1 [.int .i64 po, .int .i64 pf, .slice psa psn psc, .int .i64 pa, .int .i64 pb, .slice pka pkn pkc] rfl rfl (fun h9 => by cases h9) (fun ad had => by cases had; exact Br.cells_new_at _ _ (by first | rfl | simp) _ _) (by simp [Value.oneCell']) (by unfold maxLen; omega) (by omega) (by simp; omega) ?_); intro v' w7 hown7 hg7 hnil7; have s7 := hg7.size; rw [World.size_alloc] at s7; have kP7 := (hg7.block w1.heap.size (by rw [World.size_alloc]; omega) (fun e => HNP.out e.symm)).trans (Tx.blk_later HPB.out (Tx.newb wr (.cells #[.int .i64 po, .int .i64 pf, .slice psa psn psc, .int .i64 pa, .int .i64 pb, .slice pka pkn pkc] 25))); have kR7 := (hg7.block w.heap.size (by rw [World.size_alloc]; omega) (fun e => by have := HOW.out _ e.symm; omega)).trans (Tx.blk_later HRB.out (Tx.newb wr (.cells #[.int .i64 po, .int .i64 pf, .slice psa psn psc, .int .i64 pa, .int .i64 pb, .slice pka pkn pkc] 25))); have k7 : Below w.heap.size w w7 := (hb.alloc hb.size _).grown hg7 (by rw [World.size_alloc]; omega) (fun j hj => by have := HOW.out j hj; omega); have KP7 := Lib.hid kP7; have KR7 := Lib.hid kR7; clear kP7 kR7; have y6 : w7.cell? ⟨w1.heap.size, 6, none⟩ = some (.int .i64 (A1 : Int)) := (Tx.blk KP7.out).1 6; have d0 := cell_later k7 C0.out; have d1 := cell_later k7 C1.out; have d2 := cell_later k7 C2.out)
          | (go_at_call 77; ((with_reducible refine (HS.out w8 (HH.out.below k8)).mono ?_); rintro e wS hh; obtain ⟨uo, uf, ua, ub, usa, usn, usc, uka, ukn, ukc, un, uz, rfl, hbS⟩ := hh.vals; have HHS := Lib.hid hh; clear hh; have kS := Tx.step k8 hbS; have sS := hbS.size; have KPS := Lib.hid (Tx.blk_later KP8.out hbS); have KRS := Lib.hid (Tx.blk_later KR8.out hbS); have u0_0 : wS.cell? ⟨w1.heap.size, 0, none⟩ = some (.int .i64 po) := (Tx.blk KPS.out).1 0; have u0_1 : wS.cell? ⟨w1.heap.size, 1, none⟩ = some (.int .i64 pf) := (Tx.blk KPS.out).1 1; have u0_2 : wS.cell? ⟨w1.heap.size, 2, none⟩ = some (.slice psa psn psc) := (Tx.blk KPS.out).1 2; have u0_3 : wS.cell? ⟨w1.heap.size, 3, none⟩ = some (.int .i64 pa) := (Tx.blk KPS.out).1 3; have u0_4 : wS.cell? ⟨w1.heap.size, 4, none⟩ = some (.int .i64 pb) := (Tx.blk KPS.out).1 4; have u0_5 : wS.cell? ⟨w1.heap.size, 5, none⟩ = some (.slice pka pkn pkc) := (Tx.blk KPS.out).1 5; have u0_6 : wS.cell? ⟨w1.heap.size, 6, none⟩ = some (.int .i64 (A1 : Int)) := (Tx.blk KPS.out).1 6; have u0_7 : wS.cell? ⟨w1.heap.size, 7, none⟩ = some (.bool true) := (Tx.blk KPS.out).1 7; have uf0 : ∀ i, wS.frozen? ⟨w1.heap.size, i, none⟩ = false := (Tx.blk KPS.out).2.1))
          | (go_at_call 55; ((with_reducible refine (HOP.out w7).mono ?_); rintro e w8 ⟨rfl, hb8⟩; have k8 := Tx.step k7 hb8; have s8 := hb8.size; have KP8 := Lib.hid (Tx.blk_later KP7.out hb8); have KR8 := Lib.hid (Tx.blk_later KR7.out hb8); have y6_8 : w8.cell? ⟨w1.heap.size, 6, none⟩ = some (.int .i64 (A1 : Int)) := (Tx.blk KP8.out).1 6; have d0_8 := cell_later k8 C0.out; have d1_8 := cell_later k8 C1.out; have d2_8 := cell_later k8 C2.out)))
        have hHD7 : Qr.HD (w.heap.size + 1) w1.heap.size w7 v'.ownBlock (acc ++ [q]) (T ++ [(⟨po, pf, psa, psn, psc, pa, pb, pka, pkn, pkc⟩ : Qr.QT)]) := (HDD.out.map (fun k t hd => (hd.later (Tx.newb wr (.cells #[.int .i64 po, .int .i64 pf, .slice psa psn psc, .int .i64 pa, .int .i64 pb, .slice pka pkn pkc] 25))).grown hg7 hnil7)).snoc ((HD1.out.later (Tx.newb wr (.cells #[.int .i64 po, .int .i64 pf, .slice psa psn psc, .int .i64 pa, .int .i64 pb, .slice pka pkn pkc] 25))).grown hg7 hnil7)
        have hown8 : w7.ownsRow (w.heap.size + 1) 25 6 v' (T ++ [(⟨po, pf, psa, psn, psc, pa, pb, pka, pkn, pkc⟩ : Qr.QT)]).length ((T ++ [(⟨po, pf, psa, psn, psc, pa, pb, pka, pkn, pkc⟩ : Qr.QT)]).flatMap Qr.encQ) := by rw [List.length_append, List.flatMap_append]; exact hown7
        have hnP7 : v'.ownBlock ≠ some w1.heap.size := fun e => by
          rcases hnil7 with h9 | h9
          · rw [h9] at e; exact HNP.out e
          · rw [h9] at e; injection e with e; rw [World.size_alloc] at e; omega
        have hlt7 : ∀ b, v'.ownBlock = some b → b < w7.heap.size := fun b hb => (hown8.lt b hb).2
        have hGN : Qr.GS toks r (w.heap.size + 1) w1.heap.size wS v'.ownBlock X (Qr.lAnd false) 6 k (acc ++ [q]) (⟨uo, uf, usa, usn, usc, ua, ub, uka, ukn, ukc⟩ : Qr.QT) un uz ∧ (uz = true → A1 < un.toNat ∧ un.toNat ≤ toks.length) := by
          rcases HHS.out.two with ⟨rfl, hx⟩ | ⟨rfl, q2, r2, hx, hun, hq⟩
          · exact ⟨.inl ⟨rfl, by rw [HXS.out, hx]; rfl⟩, fun h9 => by cases h9⟩
          · have hea := HES.out q2 r2 hx
            have hnn := HNS.out q2 r2 hx
            have hl2 := (hea.1.trans HRS.out.1).length_le
            have hl3 := HRS.out.2
            have hea2 := hea.2
            refine ⟨.inr ⟨rfl, q2, r2, hea.1.trans HRS.out.1, hun, by omega, by rw [HXS.out, hx]; rfl, ⟨_, wS, hq, Qr.Kp.refl _ _, fun b hb => .inl (by have := hlt7 b hb; omega), .inl (by omega), by have := k8.size; omega⟩, ?_⟩, fun _ => ?_⟩
            · rw [Qr.nodesL_app, List.length_append]
              simp only [Qr.nodesL, List.length_cons, List.length_nil]
              omega
            · have := HA1.out
              omega
        have hHDS := hHD7.map (fun k t hd => ((hd.later hb8).later hbS).put8 (.int .i64 uo) (.int .i64 uf) (.slice usa usn usc) (.int .i64 ua) (.int .i64 ub) (.slice uka ukn ukc) (.int .i64 un) (.bool uz))
        have hownS := Qr.own_put8 (own_below (own_below hown8 hb8) hbS) hnP7 (.int .i64 uo) (.int .i64 uf) (.slice usa usn usc) (.int .i64 ua) (.int .i64 ub) (.slice uka ukn ukc) (.int .i64 un) (.bool uz)
        have hPS := Qr.blk_put8 KPS.out (.int .i64 uo) (.int .i64 uf) (.slice usa usn usc) (.int .i64 ua) (.int .i64 ub) (.slice uka ukn ukc) (.int .i64 un) (.bool uz)
        have hRS := Qr.far8 KRS.out (show w.heap.size ≠ w1.heap.size by omega) (.int .i64 uo) (.int .i64 uf) (.slice usa usn usc) (.int .i64 ua) (.int .i64 ub) (.slice uka ukn ukc) (.int .i64 un) (.bool uz)
        have hBS := Qr.put8 kS (show w.heap.size ≤ w1.heap.size by omega) (.int .i64 uo) (.int .i64 uf) (.slice usa usn usc) (.int .i64 ua) (.int .i64 ub) (.slice uka ukn ukc) (.int .i64 un) (.bool uz)
        have hmsS := Qr.ms_of (N := toks.length) hPS
        have hGS2 := hGN.1.put8 (.int .i64 uo) (.int .i64 uf) (.slice usa usn usc) (.int .i64 ua) (.int .i64 ub) (.slice uka ukn ukc) (.int .i64 un) (.bool uz)
        have HGN := Lib.hid hGN.2; have HG2 := Lib.hid hGS2; have HMS2 := Lib.hid hmsS
        clear hGN hGS2 hmsS
        go_roundw
        case rel => exact ⟨k, acc ++ [q], T ++ [(⟨po, pf, psa, psn, psc, pa, pb, pka, pkn, pkc⟩ : Qr.QT)], uo, uf, ua, ub, usa, usn, usc, uka, ukn, ukc, un, uz, by omega, HG2, hHDS, hownS, hnP7, hPS, hRS, hBS⟩
        case measure =>
          have m3 := HGN.out
          rw [HMS2.out, HMS.out]
          cases uz with
          | false => simp only [Bool.false_eq_true, reduceIte]; omega
          | true => simp only [reduceIte]; have m4 := m3 rfl; omega
      · have hi' : Qr.isOp Qr.andB r1 = false := by simpa using hi
        rw [hi'] at hOP
        by_cases hg : Qr.begins r1 = true
        · rw [hg] at hst
          have hsub := fun w h => HSUB.out k r1 w (by omega) (by omega) hs1 h
          obtain ⟨xs, hxs⟩ : ∃ x, Qr.pNot false k r1 = x := ⟨_, rfl⟩
          rw [hxs] at hsub
          have hes := (Qr.eats_all false k).2.2.2.2.1 r1
          have hns := (Qr.nodes_all false k).2.2.2.2.1 r1
          rw [hxs] at hes hns
          rw [hA1] at hsub
          have HXS : Hid (X = Qr.next xs (fun q2 r2 => Qr.lAnd false k (acc ++ [q] ++ [q2]) r2)) := Lib.hid (by rw [← hXq, Qr.lAnd, if_neg hi, if_pos hg, hxs]; rfl)
          have HRS : Hid (r1 <:+ toks ∧ r1.length + 0 ≤ r1.length) := Lib.hid ⟨hs1, Nat.le_refl _⟩
          have HOP := Lib.hid hOP; have HST := Lib.hid hst; have HS := Lib.hid hsub; have HES := Lib.hid hes; have HNS := Lib.hid hns
          clear hOP hst hsub hes hns hxs hXq hi hi' hg hA1
          go_wp2_with (first
            | (at_builtin; go_must (refine wpList_append_sl rfl _ _ 23 rfl (w.heap.size + 1) 25 i0 _ 6 80 Tryz.underlying23 HI.out hz0 hz1 hz2 rfl (by decide) _ T.length _ rfl (hown.alloc _) (some ⟨_, 0, none⟩) 1 1 [.int .i64 po, .int .i64 pf, .slice psa psn psc, .int .i64 pa, .int .i64 pb, .slice pka pkn pkc] rfl rfl (fun h9 => by cases h9) (fun ad had => by cases had; exact Br.cells_new_at _ _ (by first | rfl | simp) _ _) (by simp [Value.oneCell']) (by unfold maxLen; omega) (by omega) (by simp; omega) ?_); intro v' w7 hown7 hg7 hnil7; have s7 := hg7.size; rw [World.size_alloc] at s7; have kP7 := (hg7.block w1.heap.size (by rw [World.size_alloc]; omega) (fun e => HNP.out e.symm)).trans (Tx.blk_later HPB.out (Tx.newb wr (.cells #[.int .i64 po, .int .i64 pf, .slice psa psn psc, .int .i64 pa, .int .i64 pb, .slice pka pkn pkc] 25))); have kR7 := (hg7.block w.heap.size (by rw [World.size_alloc]; omega) (fun e => by have := HOW.out _ e.symm; omega)).trans (Tx.blk_later HRB.out (Tx.newb wr (.cells #[.int .i64 po, .int .i64 pf, .slice psa psn psc, .int .i64 pa, .int .i64 pb, .slice pka pkn pkc] 25))); have k7 : Below w.heap.size w w7 := (hb.alloc hb.size _).grown hg7 (by rw [World.size_alloc]; omega) (fun j hj => by have := HOW.out j hj; omega); have KP7 := Lib.hid kP7; have KR7 := Lib.hid kR7; clear kP7 kR7; have y6 : w7.cell? ⟨w1.heap.size, 6, none⟩ = some (.int .i64 (A1 : Int)) := (Tx.blk KP7.out).1 6; have d0 := cell_later k7 C0.out; have d1 := cell_later k7 C1.out; have d2 := cell_later k7 C2.out)
            | (go_at_call 77; ((with_reducible refine (HS.out w9 (HH.out.below k9)).mono ?_); rintro e wS hh; obtain ⟨uo, uf, ua, ub, usa, usn, usc, uka, ukn, ukc, un, uz, rfl, hbS⟩ := hh.vals; have HHS := Lib.hid hh; clear hh; have kS := Tx.step k9 hbS; have sS := hbS.size; have KPS := Lib.hid (Tx.blk_later KP9.out hbS); have KRS := Lib.hid (Tx.blk_later KR9.out hbS); have u0_0 : wS.cell? ⟨w1.heap.size, 0, none⟩ = some (.int .i64 po) := (Tx.blk KPS.out).1 0; have u0_1 : wS.cell? ⟨w1.heap.size, 1, none⟩ = some (.int .i64 pf) := (Tx.blk KPS.out).1 1; have u0_2 : wS.cell? ⟨w1.heap.size, 2, none⟩ = some (.slice psa psn psc) := (Tx.blk KPS.out).1 2; have u0_3 : wS.cell? ⟨w1.heap.size, 3, none⟩ = some (.int .i64 pa) := (Tx.blk KPS.out).1 3; have u0_4 : wS.cell? ⟨w1.heap.size, 4, none⟩ = some (.int .i64 pb) := (Tx.blk KPS.out).1 4; have u0_5 : wS.cell? ⟨w1.heap.size, 5, none⟩ = some (.slice pka pkn pkc) := (Tx.blk KPS.out).1 5; have u0_6 : wS.cell? ⟨w1.heap.size, 6, none⟩ = some (.int .i64 (A1 : Int)) := (Tx.blk KPS.out).1 6; have u0_7 : wS.cell? ⟨w1.heap.size, 7, none⟩ = some (.bool true) := (Tx.blk KPS.out).1 7; have uf0 : ∀ i, wS.frozen? ⟨w1.heap.size, i, none⟩ = false := (Tx.blk KPS.out).2.1))
            | (go_at_call 78; ((with_reducible refine (HST.out w8).mono ?_); rintro e w9 ⟨rfl, hb9⟩; have k9 := Tx.step k8 hb9; have s9 := hb9.size; have KP9 := Lib.hid (Tx.blk_later KP8.out hb9); have KR9 := Lib.hid (Tx.blk_later KR8.out hb9); have y6_9 : w9.cell? ⟨w1.heap.size, 6, none⟩ = some (.int .i64 (A1 : Int)) := (Tx.blk KP9.out).1 6))
            | (go_at_call 55; ((with_reducible refine (HOP.out w7).mono ?_); rintro e w8 ⟨rfl, hb8⟩; have k8 := Tx.step k7 hb8; have s8 := hb8.size; have KP8 := Lib.hid (Tx.blk_later KP7.out hb8); have KR8 := Lib.hid (Tx.blk_later KR7.out hb8); have y6_8 : w8.cell? ⟨w1.heap.size, 6, none⟩ = some (.int .i64 (A1 : Int)) := (Tx.blk KP8.out).1 6; have d0_8 := cell_later k8 C0.out; have d1_8 := cell_later k8 C1.out; have d2_8 := cell_later k8 C2.out)))
          have hHD7 : Qr.HD (w.heap.size + 1) w1.heap.size w7 v'.ownBlock (acc ++ [q]) (T ++ [(⟨po, pf, psa, psn, psc, pa, pb, pka, pkn, pkc⟩ : Qr.QT)]) := (HDD.out.map (fun k t hd => (hd.later (Tx.newb wr (.cells #[.int .i64 po, .int .i64 pf, .slice psa psn psc, .int .i64 pa, .int .i64 pb, .slice pka pkn pkc] 25))).grown hg7 hnil7)).snoc ((HD1.out.later (Tx.newb wr (.cells #[.int .i64 po, .int .i64 pf, .slice psa psn psc, .int .i64 pa, .int .i64 pb, .slice pka pkn pkc] 25))).grown hg7 hnil7)
          have hown8 : w7.ownsRow (w.heap.size + 1) 25 6 v' (T ++ [(⟨po, pf, psa, psn, psc, pa, pb, pka, pkn, pkc⟩ : Qr.QT)]).length ((T ++ [(⟨po, pf, psa, psn, psc, pa, pb, pka, pkn, pkc⟩ : Qr.QT)]).flatMap Qr.encQ) := by rw [List.length_append, List.flatMap_append]; exact hown7
          have hnP7 : v'.ownBlock ≠ some w1.heap.size := fun e => by
            rcases hnil7 with h9 | h9
            · rw [h9] at e; exact HNP.out e
            · rw [h9] at e; injection e with e; rw [World.size_alloc] at e; omega
          have hlt7 : ∀ b, v'.ownBlock = some b → b < w7.heap.size := fun b hb => (hown8.lt b hb).2
          have hGN : Qr.GS toks r (w.heap.size + 1) w1.heap.size wS v'.ownBlock X (Qr.lAnd false) 6 k (acc ++ [q]) (⟨uo, uf, usa, usn, usc, ua, ub, uka, ukn, ukc⟩ : Qr.QT) un uz ∧ (uz = true → A1 < un.toNat ∧ un.toNat ≤ toks.length) := by
            rcases HHS.out.two with ⟨rfl, hx⟩ | ⟨rfl, q2, r2, hx, hun, hq⟩
            · exact ⟨.inl ⟨rfl, by rw [HXS.out, hx]; rfl⟩, fun h9 => by cases h9⟩
            · have hea := HES.out q2 r2 hx
              have hnn := HNS.out q2 r2 hx
              have hl2 := (hea.1.trans HRS.out.1).length_le
              have hl3 := HRS.out.2
              have hea2 := hea.2
              refine ⟨.inr ⟨rfl, q2, r2, hea.1.trans HRS.out.1, hun, by omega, by rw [HXS.out, hx]; rfl, ⟨_, wS, hq, Qr.Kp.refl _ _, fun b hb => .inl (by have := hlt7 b hb; omega), .inl (by omega), by have := k9.size; omega⟩, ?_⟩, fun _ => ?_⟩
              · rw [Qr.nodesL_app, List.length_append]
                simp only [Qr.nodesL, List.length_cons, List.length_nil]
                omega
              · have := HA1.out
                omega
          have hHDS := hHD7.map (fun k t hd => (((hd.later hb8).later hb9).later hbS).put8 (.int .i64 uo) (.int .i64 uf) (.slice usa usn usc) (.int .i64 ua) (.int .i64 ub) (.slice uka ukn ukc) (.int .i64 un) (.bool uz))
          have hownS := Qr.own_put8 (own_below (own_below (own_below hown8 hb8) hb9) hbS) hnP7 (.int .i64 uo) (.int .i64 uf) (.slice usa usn usc) (.int .i64 ua) (.int .i64 ub) (.slice uka ukn ukc) (.int .i64 un) (.bool uz)
          have hPS := Qr.blk_put8 KPS.out (.int .i64 uo) (.int .i64 uf) (.slice usa usn usc) (.int .i64 ua) (.int .i64 ub) (.slice uka ukn ukc) (.int .i64 un) (.bool uz)
          have hRS := Qr.far8 KRS.out (show w.heap.size ≠ w1.heap.size by omega) (.int .i64 uo) (.int .i64 uf) (.slice usa usn usc) (.int .i64 ua) (.int .i64 ub) (.slice uka ukn ukc) (.int .i64 un) (.bool uz)
          have hBS := Qr.put8 kS (show w.heap.size ≤ w1.heap.size by omega) (.int .i64 uo) (.int .i64 uf) (.slice usa usn usc) (.int .i64 ua) (.int .i64 ub) (.slice uka ukn ukc) (.int .i64 un) (.bool uz)
          have hmsS := Qr.ms_of (N := toks.length) hPS
          have hGS2 := hGN.1.put8 (.int .i64 uo) (.int .i64 uf) (.slice usa usn usc) (.int .i64 ua) (.int .i64 ub) (.slice uka ukn ukc) (.int .i64 un) (.bool uz)
          have HGN := Lib.hid hGN.2; have HG2 := Lib.hid hGS2; have HMS2 := Lib.hid hmsS
          clear hGN hGS2 hmsS
          go_roundw
          case rel => exact ⟨k, acc ++ [q], T ++ [(⟨po, pf, psa, psn, psc, pa, pb, pka, pkn, pkc⟩ : Qr.QT)], uo, uf, ua, ub, usa, usn, usc, uka, ukn, ukc, un, uz, by omega, HG2, hHDS, hownS, hnP7, hPS, hRS, hBS⟩
          case measure =>
            have m3 := HGN.out
            rw [HMS2.out, HMS.out]
            cases uz with
            | false => simp only [Bool.false_eq_true, reduceIte]; omega
            | true => simp only [reduceIte]; have m4 := m3 rfl; omega
        · have hg' : Qr.begins r1 = false := by simpa using hg
          rw [hg'] at hst
          have HXJ : Hid (X = some (Qr.joined 5 (acc ++ [q]), r1)) := Lib.hid (by rw [← hXq, Qr.lAnd, if_neg hi, if_neg hg])
          have HOP := Lib.hid hOP; have HST := Lib.hid hst
          clear hOP hst hXq hi hi' hg hg' hA1
          go_wp2_with (first
            | (at_builtin; go_must (refine wpList_append_sl rfl _ _ 23 rfl (w.heap.size + 1) 25 i0 _ 6 80 Tryz.underlying23 HI.out hz0 hz1 hz2 rfl (by decide) _ T.length _ rfl (hown.alloc _) (some ⟨_, 0, none⟩) 1 1 [.int .i64 po, .int .i64 pf, .slice psa psn psc, .int .i64 pa, .int .i64 pb, .slice pka pkn pkc] rfl rfl (fun h9 => by cases h9) (fun ad had => by cases had; exact Br.cells_new_at _ _ (by first | rfl | simp) _ _) (by simp [Value.oneCell']) (by unfold maxLen; omega) (by omega) (by simp; omega) ?_); intro v' w7 hown7 hg7 hnil7; have s7 := hg7.size; rw [World.size_alloc] at s7; have kP7 := (hg7.block w1.heap.size (by rw [World.size_alloc]; omega) (fun e => HNP.out e.symm)).trans (Tx.blk_later HPB.out (Tx.newb wr (.cells #[.int .i64 po, .int .i64 pf, .slice psa psn psc, .int .i64 pa, .int .i64 pb, .slice pka pkn pkc] 25))); have kR7 := (hg7.block w.heap.size (by rw [World.size_alloc]; omega) (fun e => by have := HOW.out _ e.symm; omega)).trans (Tx.blk_later HRB.out (Tx.newb wr (.cells #[.int .i64 po, .int .i64 pf, .slice psa psn psc, .int .i64 pa, .int .i64 pb, .slice pka pkn pkc] 25))); have k7 : Below w.heap.size w w7 := (hb.alloc hb.size _).grown hg7 (by rw [World.size_alloc]; omega) (fun j hj => by have := HOW.out j hj; omega); have KP7 := Lib.hid kP7; have KR7 := Lib.hid kR7; clear kP7 kR7; have y6 : w7.cell? ⟨w1.heap.size, 6, none⟩ = some (.int .i64 (A1 : Int)) := (Tx.blk KP7.out).1 6; have d0 := cell_later k7 C0.out; have d1 := cell_later k7 C1.out; have d2 := cell_later k7 C2.out)
            | (go_at_call 78; ((with_reducible refine (HST.out w8).mono ?_); rintro e w9 ⟨rfl, hb9⟩; have k9 := Tx.step k8 hb9; have s9 := hb9.size; have KP9 := Lib.hid (Tx.blk_later KP8.out hb9); have KR9 := Lib.hid (Tx.blk_later KR8.out hb9); have y6_9 : w9.cell? ⟨w1.heap.size, 6, none⟩ = some (.int .i64 (A1 : Int)) := (Tx.blk KP9.out).1 6))
            | (go_at_call 55; ((with_reducible refine (HOP.out w7).mono ?_); rintro e w8 ⟨rfl, hb8⟩; have k8 := Tx.step k7 hb8; have s8 := hb8.size; have KP8 := Lib.hid (Tx.blk_later KP7.out hb8); have KR8 := Lib.hid (Tx.blk_later KR7.out hb8); have y6_8 : w8.cell? ⟨w1.heap.size, 6, none⟩ = some (.int .i64 (A1 : Int)) := (Tx.blk KP8.out).1 6; have d0_8 := cell_later k8 C0.out; have d1_8 := cell_later k8 C1.out; have d2_8 := cell_later k8 C2.out)))
          have hHD7 : Qr.HD (w.heap.size + 1) w1.heap.size w7 v'.ownBlock (acc ++ [q]) (T ++ [(⟨po, pf, psa, psn, psc, pa, pb, pka, pkn, pkc⟩ : Qr.QT)]) := (HDD.out.map (fun k t hd => (hd.later (Tx.newb wr (.cells #[.int .i64 po, .int .i64 pf, .slice psa psn psc, .int .i64 pa, .int .i64 pb, .slice pka pkn pkc] 25))).grown hg7 hnil7)).snoc ((HD1.out.later (Tx.newb wr (.cells #[.int .i64 po, .int .i64 pf, .slice psa psn psc, .int .i64 pa, .int .i64 pb, .slice pka pkn pkc] 25))).grown hg7 hnil7)
          have hown8 : w7.ownsRow (w.heap.size + 1) 25 6 v' (T ++ [(⟨po, pf, psa, psn, psc, pa, pb, pka, pkn, pkc⟩ : Qr.QT)]).length ((T ++ [(⟨po, pf, psa, psn, psc, pa, pb, pka, pkn, pkc⟩ : Qr.QT)]).flatMap Qr.encQ) := by rw [List.length_append, List.flatMap_append]; exact hown7
          obtain ⟨va7, vc7, hv7, hka7⟩ := hHD7.ka hown8
          rw [show (acc ++ [q]).length = acc.length + 1 by simp] at hv7
          subst hv7
          have hka8 := (hka7.below hb8).below hb9
          have hkad := hka8.below ((Below.refl w9.heap.size w9).drew)
          have hnl : Qr.nodesL (acc ++ [q]) ≤ 1000000 := by rw [Qr.nodesL_app]; simp only [Qr.nodesL]; omega
          have hjl : (acc ++ [q]).length = acc.length + 1 := by simp
          have HKA := Lib.hid hkad
          clear hka7 hka8 hkad hHD7 hown8 hown7
          have JC : Hid (Calls Tryz.prog 56 #[.int .i64 5, .slice va7 (acc.length + 1) vc7] w9.drew fun e w' => ∃ t, e = .returned (.agg (Qr.encQ t).toArray) ∧ Qr.QC (w.heap.size + 1) w' (Qr.joined 5 (acc ++ [q])) (Qr.encQ t) ∧ Below w9.drew.heap.size w9.drew w') := Lib.hid (by have h9 := r21_joined_c (w.heap.size + 1) 5 (acc ++ [q]) va7 vc7 w9.drew HKA.out hnl (by have := k9.size; show w.heap.size + 1 ≤ w9.heap.size; omega); rw [hjl] at h9; exact h9)
          go_region_with (go_at_call 56; ((with_reducible refine JC.out.mono ?_); rintro e wJ ⟨⟨uo, uf, usa, usn, usc, ua, ub, uka, ukn, ukc⟩, rfl, hqJ, hbJ⟩; have hbJ' : Below w9.heap.size w9 wJ := ((Below.refl _ _).drew).trans hbJ; have kJ := Tx.step k9 hbJ'; have KRJ := Lib.hid (Tx.blk_later KR9.out hbJ'); have KPJ := Lib.hid (Tx.blk_later KP9.out hbJ'); have y6_J : wJ.cell? ⟨w1.heap.size, 6, none⟩ = some (.int .i64 (A1 : Int)) := (Tx.blk KPJ.out).1 6; have z0 : wJ.cell? ⟨w.heap.size, 0, none⟩ = some (.int .i64 0) := (Tx.blk KRJ.out).1 0; have z1 : wJ.cell? ⟨w.heap.size, 1, none⟩ = some (.int .i64 0) := (Tx.blk KRJ.out).1 1; have z2 : wJ.cell? ⟨w.heap.size, 2, none⟩ = some (.slice none 0 0) := (Tx.blk KRJ.out).1 2; have z3 : wJ.cell? ⟨w.heap.size, 3, none⟩ = some (.int .i64 0) := (Tx.blk KRJ.out).1 3; have z4 : wJ.cell? ⟨w.heap.size, 4, none⟩ = some (.int .i64 0) := (Tx.blk KRJ.out).1 4; have z5 : wJ.cell? ⟨w.heap.size, 5, none⟩ = some (.slice none 0 0) := (Tx.blk KRJ.out).1 5; have z6 : wJ.cell? ⟨w.heap.size, 6, none⟩ = some (.int .i64 0) := (Tx.blk KRJ.out).1 6; have z7 : wJ.cell? ⟨w.heap.size, 7, none⟩ = some (.bool false) := (Tx.blk KRJ.out).1 7; have zf : ∀ i, wJ.frozen? ⟨w.heap.size, i, none⟩ = false := (Tx.blk KRJ.out).2.1))
          all_goals
            go_wp2
            exact bodyPost_ret (v := .agg #[.int .i64 uo, .int .i64 uf, .slice usa usn usc, .int .i64 ua, .int .i64 ub, .slice uka ukn ukc, .int .i64 (A1 : Int), .bool true]) (by simp [results, Tryz.results54, go_sem, z0, z1, z2, z3, z4, z5, z6, z7]) rfl (by rw [HXJ.out]; exact Qr.RRes.mk_some (by rw [HA1.out]) ((hqJ.kp ((Qr.Kp.refl _ _).put8 (by omega) _ _ _ _ _ _ _ _)).mono (by omega)) (Qr.put8 kJ (Nat.le_refl _) _ _ _ _ _ _ _ _))
end Go.Proofs.YtkahplbjbidemaaGreatDoor
