/- The reference reads a primary, as a whole; it joins searches: what the calls return. -/
import Derived.Test.YtkahplbjbidemaaGreatDoorQmG
namespace Go.Proofs.YtkahplbjbidemaaGreatDoor
open Go.RowKit
set_option maxRecDepth 100000

theorem r21_prim_c (toks r : List Qr.Tok) (b o c n : Nat) (w : World) (h : Qr.RT w toks b o c) (hr : r <:+ toks)
    (hSub : ∀ (r : List Qr.Tok) (w : World), 8 * r.length + 7 ≤ n → r <:+ toks → Qr.RT w toks b o c → Calls Tryz.prog 32 #[.slice (some ⟨b, o, none⟩) (toks.length + 1) c, .int .i64 ((toks.length - r.length : Nat) : Int)] w (Qr.RRes toks (Qr.pOr false n r) w)) (hn : 8 * r.length + 4 ≤ n + 1) :
    Calls Tryz.prog 88 #[.slice (some ⟨b, o, none⟩) (toks.length + 1) c, .int .i64 ((toks.length - r.length : Nat) : Int)] w (Qr.RRes toks (Qr.pPrim false (n + 1) r) w) := by
  obtain ⟨⟨tk, tt, tg⟩, ht⟩ : ∃ t, Qr.lk r = t := ⟨_, rfl⟩
  by_cases h40 : tk = 40
  · cases hx : Qr.pOr false n r.tail with
    | none =>
      have e : Qr.pPrim false (n + 1) r = none := by rw [Qr.pPrim, if_pos (by rw [ht]; exact h40), hx]
      rw [e]
      exact pp_par_none toks r b o c n w h hr tk tt tg ht hSub hn h40 hx
    | some p =>
      obtain ⟨q, r'⟩ := p
      by_cases hc : (Qr.lk r').k = 41
      · have e : Qr.pPrim false (n + 1) r = some (q, r'.tail) := by rw [Qr.pPrim, if_pos (by rw [ht]; exact h40), hx]; simp only; rw [if_pos hc]
        rw [e]
        exact pp_par_ok toks r b o c n w h hr tk tt tg ht hSub hn h40 q r' hx hc
      · have e : Qr.pPrim false (n + 1) r = none := by rw [Qr.pPrim, if_pos (by rw [ht]; exact h40), hx]; simp only; rw [if_neg hc]
        rw [e]
        exact pp_par_open toks r b o c n w h hr tk tt tg ht hSub hn h40 q r' hx hc
  · have e0 : Qr.pPrim false (n + 1) r = Qr.pFlat false r := by rw [Qr.pPrim, if_neg (by rw [ht]; exact h40)]
    rw [e0]
    have hw0 : Qr.word0 r = Qr.beg ⟨tk, tt, tg⟩ := by
      unfold Qr.word0 Qr.beg
      rw [ht, show ((tk == 40) : Bool) = false from beq_eq_false_iff_ne.2 h40, Bool.or_false]
    have hgl : Qr.glue 58 r = (tk == 114 && (Qr.lk r.tail).k == 58 && (Qr.lk r.tail).g) := by unfold Qr.glue Qr.lk1; rw [ht]
    have hF : Qr.pFlat false r = if Qr.word0 r = false then none else if Qr.glue 58 r = true then (if (Qr.lk r.tail.tail).g = false then none else if Qr.word0 r.tail.tail = false then none else if tt = [121, 101, 97, 114] then Qr.pYears false r.tail.tail else match Qr.fieldOf tt with
        | none => none
        | some f => Qr.pTerm false f r.tail.tail) else Qr.pTerm false 0 r := by
      unfold Qr.pFlat
      rw [ht]
      simp only
      cases Qr.fieldOf tt <;> rfl
    cases hb : Qr.beg ⟨tk, tt, tg⟩ with
    | false =>
      rw [hF, hw0, hb, if_pos rfl]
      exact pp_nobeg toks r b o c w h hr tk tt tg ht h40 hb
    | true =>
      rw [hF, hw0, hb, if_neg (by simp)]
      by_cases h3 : tk = 113
      · rw [hgl, if_neg (by rw [h3]; simp)]
        exact pp_term_q toks r b o c w h hr tk tt tg ht h3
      · have h4 : tk = 114 ∧ Qr.anyOp ⟨tk, tt, tg⟩ = false := by
          unfold Qr.beg at hb
          simp only at hb
          rw [show ((tk == 113) : Bool) = false from beq_eq_false_iff_ne.2 h3, show ((tk == 40) : Bool) = false from beq_eq_false_iff_ne.2 h40] at hb
          simpa using hb
        obtain ⟨h4, ha⟩ := h4
        by_cases h5 : (Qr.lk r.tail).k = 58
        · by_cases h6 : (Qr.lk r.tail).g = true
          · rw [hgl, if_pos (by rw [h4, h5, h6]; decide)]
            by_cases h7 : (Qr.lk r.tail.tail).g = true
            · rw [if_neg (by rw [h7]; simp)]
              by_cases hy : tt = [121, 101, 97, 114]
              · have e : (if Qr.word0 r.tail.tail = false then none else if tt = [121, 101, 97, 114] then Qr.pYears false r.tail.tail else match Qr.fieldOf tt with
                  | none => none
                  | some f => Qr.pTerm false f r.tail.tail) = Qr.pYears false r.tail.tail := by
                  by_cases hw : Qr.word0 r.tail.tail = false
                  · rw [if_pos hw, Qr.pYears_no hw]
                  · rw [if_neg hw, if_pos hy]
                rw [e]
                exact pp_f_year toks r b o c w h hr tk tt tg ht h4 ha h5 h6 h7 hy
              · cases hf : Qr.fieldOf tt with
                | none =>
                  have e : (if Qr.word0 r.tail.tail = false then none else if tt = [121, 101, 97, 114] then Qr.pYears false r.tail.tail else (none : Qr.PR)) = none := by
                    simp [hy]
                  show Calls _ _ _ w (Qr.RRes toks (if Qr.word0 r.tail.tail = false then none else if tt = [121, 101, 97, 114] then Qr.pYears false r.tail.tail else (none : Qr.PR)) w)
                  rw [e]
                  exact pp_f_nofield toks r b o c w h hr tk tt tg ht h4 ha h5 h6 h7 hy hf
                | some f =>
                  have hf0 : 0 ≤ f := by
                    unfold Qr.fieldOf at hf
                    repeat' split at hf
                    all_goals first | (injection hf with hf; omega) | cases hf
                  have e : (if Qr.word0 r.tail.tail = false then none else if tt = [121, 101, 97, 114] then Qr.pYears false r.tail.tail else Qr.pTerm false f r.tail.tail) = Qr.pTerm false f r.tail.tail := by
                    by_cases hw : Qr.word0 r.tail.tail = false
                    · rw [if_pos hw, Qr.pTerm_no hw]
                    · rw [if_neg hw, if_neg hy]
                  show Calls _ _ _ w (Qr.RRes toks (if Qr.word0 r.tail.tail = false then none else if tt = [121, 101, 97, 114] then Qr.pYears false r.tail.tail else Qr.pTerm false f r.tail.tail) w)
                  rw [e]
                  exact pp_f_field toks r b o c w h hr tk tt tg ht h4 ha h5 h6 h7 hy f hf hf0
            · have h7' : (Qr.lk r.tail.tail).g = false := by simpa using h7
              rw [if_pos h7']
              exact pp_f_loose toks r b o c w h hr tk tt tg ht h4 ha h5 h6 h7'
          · have h6' : (Qr.lk r.tail).g = false := by simpa using h6
            rw [hgl, if_neg (by rw [h6']; simp)]
            exact pp_term_g toks r b o c w h hr tk tt tg ht h4 ha h5 h6'
        · rw [hgl, if_neg (by rw [show (((Qr.lk r.tail).k == 58) : Bool) = false from beq_eq_false_iff_ne.2 h5]; simp)]
          exact pp_term_n toks r b o c w h hr tk tt tg ht h4 ha h5

/-! joined -/
theorem r21_joined_1 (B : Nat) (op : Int) (x : Qr.Qy) (a : Option Addr) (c : Nat) (w : World) (hK : Qr.KA B w a c [x]) :
    Calls Tryz.prog 56 #[.int .i64 op, .slice a 1 c] w fun e w' => ∃ t, e = .returned (.agg (Qr.encQ t).toArray) ∧ Qr.QC B w' x (Qr.encQ t) ∧ Below w.heap.size w w' := by
  obtain ⟨W, hW⟩ : ∃ W, w.alloc (.cells #[.int .i64 0, .int .i64 0, .slice none 0 0, .int .i64 0, .int .i64 0, .slice none 0 0] 25) = W := ⟨_, rfl⟩
  have hB : Below w.heap.size w W := by rw [← hW]; exact Tx.newb _ _
  obtain ⟨rc, rf, rl⟩ := Tx.blk (show W.heap[w.heap.size]? = some (.cells #[.int .i64 0, .int .i64 0, .slice none 0 0, .int .i64 0, .int .i64 0, .slice none 0 0] 25 (0, 0)) by rw [← hW]; exact heap_alloc_new _ _)
  have c0 : W.cell? ⟨w.heap.size, 0, none⟩ = some (.int .i64 0) := rc 0
  have c1 : W.cell? ⟨w.heap.size, 1, none⟩ = some (.int .i64 0) := rc 1
  have c2 : W.cell? ⟨w.heap.size, 2, none⟩ = some (.slice none 0 0) := rc 2
  have c3 : W.cell? ⟨w.heap.size, 3, none⟩ = some (.int .i64 0) := rc 3
  have c4 : W.cell? ⟨w.heap.size, 4, none⟩ = some (.int .i64 0) := rc 4
  have c5 : W.cell? ⟨w.heap.size, 5, none⟩ = some (.slice none 0 0) := rc 5
  clear rc
  obtain ⟨b, o, sa, sc, ka, kc, rfl, hbl, d0, d1, d2, d3, d4, d5, hq⟩ := hK.get (k := 0) rfl
  rw [Nat.zero_mul, Nat.add_zero] at d0 d1 d2 d3 d4 d5
  replace d0 := cell_later hB d0
  replace d1 := cell_later hB d1
  replace d2 := cell_later hB d2
  replace d3 := cell_later hB d3
  replace d4 := cell_later hB d4
  replace d5 := cell_later hB d5
  have HQ := Lib.hid hq; clear hq hK hbl
  have hP := Tx.put6 hB (Nat.le_refl _) (.int .i64 x.op) (.int .i64 x.fld) (.slice sa x.ws.length sc) (.int .i64 x.a) (.int .i64 x.b) (.slice ka x.ks.length kc)
  have HP := Lib.hid hP; clear hP
  go_enter Tryz.func56, Tryz.ntmps56
  go_wp2
  refine bodyPost_ret (v := .agg #[.int .i64 x.op, .int .i64 x.fld, .slice sa x.ws.length sc, .int .i64 x.a, .int .i64 x.b, .slice ka x.ks.length kc]) (by simp [results, Tryz.results56, go_sem, c0, c1, c2, c3, c4, c5]) rfl ⟨⟨x.op, x.fld, sa, x.ws.length, sc, x.a, x.b, ka, x.ks.length, kc⟩, rfl, HQ.out.later HP.out, HP.out⟩

set_option maxHeartbeats 6400000 in
theorem r21_joined_m (B : Nat) (op : Int) (l : List Qr.Qy) (a : Option Addr) (c : Nat) (w : World) (hK : Qr.KA B w a c l) (h1 : l.length ≠ 1) (hn : Qr.nodesL l ≤ 1000000) (hBw : B ≤ w.heap.size) :
    Calls Tryz.prog 56 #[.int .i64 op, .slice a l.length c] w fun e w' => ∃ t, e = .returned (.agg (Qr.encQ t).toArray) ∧ Qr.QC B w' (Qr.joined op l) (Qr.encQ t) ∧ Below w.heap.size w w' := by
  obtain ⟨i0, hi0, hz0, hz1, hz2⟩ := info_parts info_qy
  have HI := Lib.hid hi0; clear hi0
  have hll := Qr.ks_nodes l
  have HJ := Lib.hid (Qr.joined_many op l h1)
  have hl1 : ¬ ((l.length : Int) = 1) := by omega
  have hl2 : ((l.length : Int) == 1) = false := beq_eq_false_iff_ne.2 hl1
  clear h1
  have hmx : maxLen = 9223372036854775807 := rfl
  obtain ⟨W, hW⟩ : ∃ W, w.alloc (.cells Qr.zeroQ 25) = W := ⟨_, rfl⟩
  have hB : Below w.heap.size w W := by rw [← hW]; exact Tx.newb _ _
  have hWs : W.heap.size = w.heap.size + 1 := by rw [← hW]; simp
  have HWS := Lib.hid hWs; clear hWs
  have KR : Hid (W.heap[w.heap.size]? = some (.cells Qr.zeroQ 25 (0, 0))) := Lib.hid (by rw [← hW]; exact heap_alloc_new w _)
  go_enter Tryz.func56, Tryz.ntmps56
  go_wp2
  clear hW
  go_loopw [5, 6] (fun v i wr => ∃ (k : Nat) (T : List Qr.QT), k ≤ l.length ∧ i = .int .i64 k ∧ Qr.QL B w ((l.take k).flatMap (Qr.flat op)) T ∧ wr.ownsRow W.heap.size 25 6 v T.length (T.flatMap Qr.encQ) ∧ Below W.heap.size W wr) (fun _ i _ => l.length - (intOf i).toNat)
  case atStart => exact ⟨0, [], Nat.zero_le _, rfl, by rw [List.take_zero]; exact Qr.QL.nil _ _, World.ownsRow_lit (base := W.heap.size) (e := 25) (size := 6) W #[] 0 (by simp) (by unfold maxLen; omega) rfl, Tx.newb _ _⟩
  case round =>
    obtain ⟨k, T, hk, rfl, hT, hown, hb0⟩ := hrel
    have hb : Below w.heap.size w wr := hB.trans (hb0.mono hB.size)
    have hTl : T.length ≤ 1000000 := by
      rw [hT.1]
      have h1 := Qr.flat_len op (l.take k)
      have h2 := Qr.nodesL_take l k
      omega
    have hsz := hb0.size
    by_cases hlt : k < l.length
    · obtain ⟨x, hx⟩ : ∃ x, l[k]? = some x := ⟨_, List.getElem?_eq_getElem hlt⟩
      obtain ⟨b, o, sa2, sc2, ka2, kc2, rfl, hbl, d0, d1, d2, d3, d4, d5, hq⟩ := hK.get hx
      have hxn := Qr.nodes_kid (List.mem_of_getElem? hx)
      have hft := Qr.flat_take (op := op) hx
      obtain ⟨T2, hT2, hFA, hlow⟩ := hq.ka.ts
      have hT2l := hT2.1
      have hkn : x.ks.length ≤ 1000000 := by
        have h1 := Qr.ks_nodes x.ks
        cases x
        simp only [Qr.nodes, Qr.Qy.ks] at *
        omega
      replace d0 := cell_later hb d0
      replace d1 := cell_later hb d1
      replace d2 := cell_later hb d2
      replace d3 := cell_later hb d3
      replace d4 := cell_later hb d4
      replace d5 := cell_later hb d5
      have HQ := Lib.hid hq; clear hq
      have HFT := Lib.hid hft; clear hft hx hlow
      have HL2 := Lib.hid hT2l; clear hT2l
      have HT2 := Lib.hid hT2; clear hT2
      have HT := Lib.hid hT; clear hT
      by_cases hxo : x.op = op
      · have HO := Lib.hid hxo
        rw [hxo] at d0
        clear hxo
        have HFL : Hid (Qr.flat op x = x.ks) := Lib.hid (by unfold Qr.flat; rw [if_pos HO.out])
        go_wp2_with (at_builtin; go_must (refine wpList_append_sl rfl _ _ 23 rfl W.heap.size 25 i0 _ 6 80 Tryz.underlying23 HI.out hz0 hz1 hz2 rfl (by decide) _ T.length _ rfl hown ka2 x.ks.length kc2 (T2.flatMap Qr.encQ) rfl (by rw [Br.flat_len Qr.encQ 6 Qr.encQ_len, HL2.out]) (fun h9 => by rw [← HL2.out]; exact hFA.none h9) ((hFA.below hb).cells Qr.encQ_len (by omega)) (Qr.encQ_ones T2) (by unfold maxLen; omega) (by omega) (by omega) ?_); intro v' w2 hown2 hg2 hnil2)
        have hown3 : w2.ownsRow W.heap.size 25 6 v' (T ++ T2).length ((T ++ T2).flatMap Qr.encQ) := by rw [List.length_append, List.flatMap_append, HL2.out]; exact hown2
        have hb3 : Below W.heap.size W w2 := hb0.grown hg2 (by omega) (fun j hj => (hown.lt j hj).1)
        go_roundw
        case rel => exact ⟨k + 1, T ++ T2, hlt, by go_num, by rw [HFT.out, HFL.out]; exact HT.out.app HT2.out, hown3, hb3⟩
        case measure => simp [intOf]; omega
      · have HFL : Hid (Qr.flat op x = [x]) := Lib.hid (by unfold Qr.flat; rw [if_neg hxo])
        have hxb : (x.op == op) = false := beq_eq_false_iff_ne.2 hxo
        clear hxo
        go_wp2_with (at_builtin; go_must (refine wpList_append_sl rfl _ _ 23 rfl W.heap.size 25 i0 _ 6 80 Tryz.underlying23 HI.out hz0 hz1 hz2 rfl (by decide) _ T.length _ rfl (hown.alloc _) (some ⟨_, 0, none⟩) 1 1 [.int .i64 x.op, .int .i64 x.fld, .slice sa2 x.ws.length sc2, .int .i64 x.a, .int .i64 x.b, .slice ka2 x.ks.length kc2] rfl rfl (fun h9 => by cases h9) (fun ad had => by cases had; exact Br.cells_new_at _ _ (by first | rfl | simp) _ _) (by simp [Value.oneCell']) (by unfold maxLen; omega) (by omega) (by simp; omega) ?_); intro v' w2 hown2 hg2 hnil2)
        have hown3 : w2.ownsRow W.heap.size 25 6 v' (T ++ [(⟨x.op, x.fld, sa2, x.ws.length, sc2, x.a, x.b, ka2, x.ks.length, kc2⟩ : Qr.QT)]).length ((T ++ [(⟨x.op, x.fld, sa2, x.ws.length, sc2, x.a, x.b, ka2, x.ks.length, kc2⟩ : Qr.QT)]).flatMap Qr.encQ) := by rw [List.length_append, List.flatMap_append]; exact hown2
        have hb3 : Below W.heap.size W w2 := (hb0.trans ((Tx.newb _ _).mono hb0.size)).grown hg2 (by simp; omega) (fun j hj => (hown.lt j hj).1)
        go_roundw
        case rel => exact ⟨k + 1, T ++ [⟨x.op, x.fld, sa2, x.ws.length, sc2, x.a, x.b, ka2, x.ks.length, kc2⟩], hlt, by go_num, by rw [HFT.out, HFL.out]; exact HT.out.app (Qr.QL.one HQ.out), hown3, hb3⟩
        case measure => simp [intOf]; omega
    · have hkk : k = l.length := by omega
      subst hkk
      rw [List.take_length] at hT
      replace KR := Lib.hid (Tx.blk_later KR.out hb0)
      obtain ⟨rc, rf, rl⟩ := Tx.blk KR.out
      have r0 : wr.cell? ⟨w.heap.size, 0, none⟩ = some (.int .i64 0) := rc 0
      have r1 : wr.cell? ⟨w.heap.size, 1, none⟩ = some (.int .i64 0) := rc 1
      have r2 : wr.cell? ⟨w.heap.size, 2, none⟩ = some (.slice none 0 0) := rc 2
      have r3 : wr.cell? ⟨w.heap.size, 3, none⟩ = some (.int .i64 0) := rc 3
      have r4 : wr.cell? ⟨w.heap.size, 4, none⟩ = some (.int .i64 0) := rc 4
      have r5 : wr.cell? ⟨w.heap.size, 5, none⟩ = some (.slice none 0 0) := rc 5
      clear rc
      have hTL : T.length = (l.flatMap (Qr.flat op)).length := hT.1
      obtain ⟨va, vc, rfl, hFA3, hlow3⟩ := Br.FA.of_own Qr.encQ_len hown rfl
      have hP := fun v0 v1 v2 v3 v4 v5 => Tx.put6 hb (Nat.le_refl _) v0 v1 v2 v3 v4 v5
      have HP := Lib.hid hP; clear hP
      have HTL := Lib.hid hTL; clear hTL
      have hkeep : ∀ (w' : World), Below w.heap.size w w' → Qr.Kp W.heap.size wr w' → Qr.QC B w' (Qr.joined op l) [.int .i64 op, .int .i64 0, .slice none 0 0, .int .i64 0, .int .i64 0, .slice va (l.flatMap (Qr.flat op)).length vc] := by
        intro w' hb' hKp
        rw [HJ.out]
        have hBW : B ≤ W.heap.size := Nat.le_trans hBw hB.size
        exact Qr.QC.of_kids (ws := []) (.inl ⟨rfl, _, _, rfl⟩) (fun h => absurd rfl h) (Qr.KA.of_ts (hT.later hb') (Qr.Kp.fa hFA3 (fun _ ad had => hlow3 ad had) hKp) (fun hn ad had => Nat.le_trans hBW (hlow3 ad had)))
      have HK := Lib.hid hkeep; clear hkeep
      have hRW : w.heap.size < W.heap.size := by have := HWS.out; omega
      clear hFA3 hlow3 hown hT
      go_wp2
      refine bodyPost_ret (v := .agg #[.int .i64 op, .int .i64 0, .slice none 0 0, .int .i64 0, .int .i64 0, .slice va T.length vc]) (by simp [results, Tryz.results56, go_sem, r0, r1, r2, r3, r4, r5]) rfl ⟨⟨op, 0, none, 0, 0, 0, 0, va, T.length, vc⟩, rfl, by rw [show Qr.encQ ⟨op, 0, none, 0, 0, 0, 0, va, T.length, vc⟩ = [.int .i64 op, .int .i64 0, .slice none 0 0, .int .i64 0, .int .i64 0, .slice va (l.flatMap (Qr.flat op)).length vc] by rw [← HTL.out]]; exact HK.out _ (HP.out _ _ _ _ _ _) ((Qr.Kp.refl _ _).put6 hRW _ _ _ _ _ _), HP.out _ _ _ _ _ _⟩

theorem r21_joined_c (B : Nat) (op : Int) (l : List Qr.Qy) (a : Option Addr) (c : Nat) (w : World) (hK : Qr.KA B w a c l) (hn : Qr.nodesL l ≤ 1000000) (hBw : B ≤ w.heap.size) :
    Calls Tryz.prog 56 #[.int .i64 op, .slice a l.length c] w fun e w' => ∃ t, e = .returned (.agg (Qr.encQ t).toArray) ∧ Qr.QC B w' (Qr.joined op l) (Qr.encQ t) ∧ Below w.heap.size w w' := by
  by_cases h1 : l.length = 1
  · match l, h1, hK with
    | [x], _, hK => exact r21_joined_1 B op x a c w hK
  · exact r21_joined_m B op l a c w hK h1 hn hBw
end Go.Proofs.YtkahplbjbidemaaGreatDoor
