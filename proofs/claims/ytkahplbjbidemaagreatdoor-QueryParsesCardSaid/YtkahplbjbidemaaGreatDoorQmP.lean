/- The reference's Parse: what the call returns. -/
import Derived.Test.YtkahplbjbidemaaGreatDoorQmO
import Derived.Test.YtkahplbjbidemaaGreatDoorQnX
namespace Go.Proofs.YtkahplbjbidemaaGreatDoor
open Go.RowKit
set_option maxRecDepth 100000

namespace Qr
theorem toks_k0' : ∀ (n : Nat) (g : Bool) (l : By), (∀ c ∈ l, True) → ∀ t ∈ toks n g l, t.k ≠ 0
  | 0, _, _, _, t, h => by simp [toks] at h
  | n + 1, _, [], _, t, h => by simp [toks] at h
  | n + 1, g, c :: r, _, t, h => by
    unfold toks at h
    split at h
    · exact toks_k0' n _ _ (fun _ _ => trivial) t h
    · split at h
      · rename_i h4
        rcases List.mem_cons.1 h with h | h
        · subst h
          rcases h4 with h4 | h4 | h4 | h4 <;> subst h4 <;> simp
        · exact toks_k0' n _ _ (fun _ _ => trivial) t h
      · split at h
        · split at h
          · rcases List.mem_cons.1 h with h | h
            · subst h; show (113 : UInt8) ≠ 0; decide
            · exact toks_k0' n _ _ (fun _ _ => trivial) t h
          · rcases List.mem_cons.1 h with h | h
            · subst h; show (34 : UInt8) ≠ 0; decide
            · exact toks_k0' n _ _ (fun _ _ => trivial) t h
        · rcases List.mem_cons.1 h with h | h
          · subst h; show (114 : UInt8) ≠ 0; decide
          · exact toks_k0' n _ _ (fun _ _ => trivial) t h
theorem toks_k0 (s : By) : ∀ t ∈ tokens s, t.k ≠ 0 := fun t h => toks_k0' _ _ _ (fun _ _ => trivial) t h
theorem toks_lg : ∀ (n : Nat) (g : Bool) (l : By), ∀ t ∈ toks n g l, t.k = 34 ∨ Lg t
  | 0, _, _, t, h => by simp [toks] at h
  | n + 1, _, [], t, h => by simp [toks] at h
  | n + 1, g, c :: r, t, h => by
    unfold toks at h
    split at h
    · exact toks_lg n _ _ t h
    · split at h
      · rename_i h4
        rcases List.mem_cons.1 h with h | h
        · subst h
          right
          rcases h4 with h4 | h4 | h4 | h4 <;> subst h4 <;> simp [Lg]
        · exact toks_lg n _ _ t h
      · split at h
        · split at h
          · rcases List.mem_cons.1 h with h | h
            · subst h; right; simp [Lg]
            · exact toks_lg n _ _ t h
          · rcases List.mem_cons.1 h with h | h
            · subst h; exact .inl rfl
            · exact toks_lg n _ _ t h
        · rcases List.mem_cons.1 h with h | h
          · subst h; right; simp [Lg]
          · exact toks_lg n _ _ t h
theorem TokRes.open_ {l : List Tok} {w w' : World} {e : Ending} (h : TokRes l w e w') (ho : l.any (fun t => t.k == 34) = true) : e = .returned (.tuple #[.slice none 0 0, .bool false]) ∧ Below w.heap.size w w' := by
  rcases h with ⟨_, h1, h2⟩ | ⟨h0, _⟩
  · exact ⟨h1, h2⟩
  · rw [ho] at h0; cases h0
theorem TokRes.good {s : By} {w w' : World} {e : Ending} (h : TokRes (tokens s) w e w') (ho : (tokens s).any (fun t => t.k == 34) = false) (hok : TokOk (tokens s)) (hl : (tokens s).length ≤ 1000) : ∃ b o c, e = .returned (.tuple #[.slice (some ⟨b, o, none⟩) ((tokens s).length + 1) c, .bool true]) ∧ RT w' (tokens s) b o c ∧ Below w.heap.size w w' := by
  rcases h with ⟨h0, _⟩ | ⟨_, ⟨v, rfl, hown⟩, hb⟩
  · rw [ho] at h0; cases h0
  · obtain ⟨l, hL⟩ : ∃ l, tokens s = l := ⟨_, rfl⟩
    have hlg : ∀ t ∈ l, Lg t := fun t ht => by
      rw [← hL] at ht
      rcases toks_lg _ _ _ t ht with h | h
      · rw [List.any_eq_false] at ho
        have := ho t ht
        rw [h] at this
        simp at this
      · exact h
    rw [hL] at hown hok hl ⊢
    have hown2 : w'.ownsRow w.heap.size 55 3 v (l ++ [(⟨0, [], false⟩ : Tok)]).length ((l ++ [(⟨0, [], false⟩ : Tok)]).flatMap encR) := by
      rw [List.length_append, List.flatMap_append]
      exact hown
    obtain ⟨a, c, e1, hFA, _⟩ := Br.FA.of_own (enc := encR) (size := 3) (fun _ => rfl) hown2 rfl
    subst e1
    obtain ⟨b, o, h1, h2⟩ := hFA.at_
    obtain ⟨rfl, h4⟩ := h1 (by simp)
    have hcap := hFA.cap
    rw [List.length_append] at hcap
    refine ⟨b, o, c, by rw [List.length_append]; rfl, ⟨hcap, hFA.max, by omega, h4, hlg, hok, fun r hr => ?_⟩, hb⟩
    have hg : (l ++ [(⟨0, [], false⟩ : Tok)])[l.length - r.length]? = some (lk r) := by
      have hrl := hr.length_le
      cases r with
      | nil => rw [List.length_nil, Nat.sub_zero, List.getElem?_append_right (Nat.le_refl _), Nat.sub_self]; rfl
      | cons x y =>
        have := suf_at hr 0
        rw [Nat.add_zero] at this
        rw [List.getElem?_append_left (by rw [List.length_cons] at hrl ⊢; omega), this]
        rfl
    exact ⟨h2 _ 0 _ _ hg rfl, h2 _ 1 _ _ hg rfl, h2 _ 2 _ _ hg rfl⟩
theorem parse_ref_end {s : By} {q : Qy} (hl : ¬ 1000 < s.length) (hv : Tx.valid s = true) (hx : pOr false (8 * (tokens s).length + 8) (tokens s) = some (q, [])) : parse s = if rightE q = 0 then (q, 0) else (q0, rightE q) := by
  rw [parse_ref, if_neg hl, if_neg (by simp [hv]), hx]
theorem parse_ref_bad {s : By} (hl : ¬ 1000 < s.length) (hv : Tx.valid s = true) (hx : ∀ q, pOr false (8 * (tokens s).length + 8) (tokens s) ≠ some (q, [])) : parse s = (q0, 3) := by
  rw [parse_ref, if_neg hl, if_neg (by simp [hv])]
  generalize pOr false (8 * (tokens s).length + 8) (tokens s) = x at hx
  rcases x with _ | ⟨q, _ | ⟨a, b⟩⟩
  · rfl
  · exact absurd rfl (hx q)
  · rfl
end Qr
theorem r21_or_at0 (toks : List Qr.Tok) (b o c N : Nat) (hN : 8 * toks.length + 7 ≤ N) (x : Qr.PR) (hx : Qr.pOr false N toks = x) (w : World) (h : Qr.RT w toks b o c) :
    Calls Tryz.prog 32 #[.slice (some ⟨b, o, none⟩) (toks.length + 1) c, .int .i64 0] w (Qr.RRes toks x w) := by
  have h1 := (r21_readers toks b o c N).1 N toks w (Nat.le_refl _) hN (List.suffix_refl _) h
  rw [Nat.sub_self, hx] at h1
  exact h1

set_option maxHeartbeats 3200000 in
theorem r21_Parse_1 (s : ByteArray) (w : World) (hl : 1000 < s.size) :
    Calls Tryz.prog 15 #[.string s] w fun e w' => ∃ t, e = .returned (.tuple #[.agg (Qr.encQ t).toArray, .int .i64 (Qr.parse s.data.toList).2]) ∧ Qr.QC w.heap.size w' (Qr.parse s.data.toList).1 (Qr.encQ t) ∧ Below w.heap.size w w' := by
  rw [Qr.parse_long (by rw [← Lib.size_eq]; exact hl)]
  have g1 : (1000 : Int) < (s.size : Int) := by omega
  obtain ⟨W, hW⟩ : ∃ W, w.alloc (.cells Qr.zeroQ 25) = W := ⟨_, rfl⟩
  have hB : Below w.heap.size w W := by rw [← hW]; exact Tx.newb _ _
  have hWs : W.heap.size = w.heap.size + 1 := by rw [← hW]; simp
  have KR : Hid (W.heap[w.heap.size]? = some (.cells Qr.zeroQ 25 (0, 0))) := Lib.hid (by rw [← hW]; exact heap_alloc_new w _)
  have z0 : W.cell? ⟨w.heap.size, 0, none⟩ = some (.int .i64 0) := (Tx.blk KR.out).1 0
  have z1 : W.cell? ⟨w.heap.size, 1, none⟩ = some (.int .i64 0) := (Tx.blk KR.out).1 1
  have z2 : W.cell? ⟨w.heap.size, 2, none⟩ = some (.slice none 0 0) := (Tx.blk KR.out).1 2
  have z3 : W.cell? ⟨w.heap.size, 3, none⟩ = some (.int .i64 0) := (Tx.blk KR.out).1 3
  have z4 : W.cell? ⟨w.heap.size, 4, none⟩ = some (.int .i64 0) := (Tx.blk KR.out).1 4
  have z5 : W.cell? ⟨w.heap.size, 5, none⟩ = some (.slice none 0 0) := (Tx.blk KR.out).1 5
  have zf : ∀ i, W.frozen? ⟨w.heap.size, i, none⟩ = false := (Tx.blk KR.out).2.1
  go_enter Tryz.func15, Tryz.ntmps15
  go_wp2
  exact bodyPost_ret (v := .tuple #[.agg (Qr.encQ Qr.t0).toArray, .int .i64 4]) (by simp [results, Tryz.results15, go_sem, z0, z1, z2, z3, z4, z5]) rfl ⟨Qr.t0, rfl, Qr.q0_c _ _, Tx.put6 hB (Nat.le_refl _) _ _ _ _ _ _⟩

set_option maxHeartbeats 3200000 in
theorem r21_Parse_2 (s : ByteArray) (w : World) (hl : ¬ 1000 < s.size) (hv : Tx.valid s.data.toList = false) :
    Calls Tryz.prog 15 #[.string s] w fun e w' => ∃ t, e = .returned (.tuple #[.agg (Qr.encQ t).toArray, .int .i64 (Qr.parse s.data.toList).2]) ∧ Qr.QC w.heap.size w' (Qr.parse s.data.toList).1 (Qr.encQ t) ∧ Below w.heap.size w w' := by
  rw [Qr.parse_bad (by rw [← Lib.size_eq]; exact hl) hv]
  have g1 : ¬ (1000 : Int) < (s.size : Int) := by omega
  have HV := Lib.hid hv; clear hv
  obtain ⟨W, hW⟩ : ∃ W, w.alloc (.cells Qr.zeroQ 25) = W := ⟨_, rfl⟩
  have hB : Below w.heap.size w W := by rw [← hW]; exact Tx.newb _ _
  have hWs : W.heap.size = w.heap.size + 1 := by rw [← hW]; simp
  have KR : Hid (W.heap[w.heap.size]? = some (.cells Qr.zeroQ 25 (0, 0))) := Lib.hid (by rw [← hW]; exact heap_alloc_new w _)
  have z0 : W.cell? ⟨w.heap.size, 0, none⟩ = some (.int .i64 0) := (Tx.blk KR.out).1 0
  have z1 : W.cell? ⟨w.heap.size, 1, none⟩ = some (.int .i64 0) := (Tx.blk KR.out).1 1
  have z2 : W.cell? ⟨w.heap.size, 2, none⟩ = some (.slice none 0 0) := (Tx.blk KR.out).1 2
  have z3 : W.cell? ⟨w.heap.size, 3, none⟩ = some (.int .i64 0) := (Tx.blk KR.out).1 3
  have z4 : W.cell? ⟨w.heap.size, 4, none⟩ = some (.int .i64 0) := (Tx.blk KR.out).1 4
  have z5 : W.cell? ⟨w.heap.size, 5, none⟩ = some (.slice none 0 0) := (Tx.blk KR.out).1 5
  have zf : ∀ i, W.frozen? ⟨w.heap.size, i, none⟩ = false := (Tx.blk KR.out).2.1
  go_enter Tryz.func15, Tryz.ntmps15
  go_wp2_with (first
    | (go_at_call 20; ((with_reducible refine (r01_Valid_c s _ (by omega)).mono ?_); rintro e w1 ⟨rfl, hb1⟩; rw [HV.out]; have k1 := Tx.step hB hb1; have s1 := hb1.size; have KR1 := Lib.hid (Tx.blk_later KR.out hb1); have z0 : w1.cell? ⟨w.heap.size, 0, none⟩ = some (.int .i64 0) := (Tx.blk KR1.out).1 0; have z1 : w1.cell? ⟨w.heap.size, 1, none⟩ = some (.int .i64 0) := (Tx.blk KR1.out).1 1; have z2 : w1.cell? ⟨w.heap.size, 2, none⟩ = some (.slice none 0 0) := (Tx.blk KR1.out).1 2; have z3 : w1.cell? ⟨w.heap.size, 3, none⟩ = some (.int .i64 0) := (Tx.blk KR1.out).1 3; have z4 : w1.cell? ⟨w.heap.size, 4, none⟩ = some (.int .i64 0) := (Tx.blk KR1.out).1 4; have z5 : w1.cell? ⟨w.heap.size, 5, none⟩ = some (.slice none 0 0) := (Tx.blk KR1.out).1 5; have zf : ∀ i, w1.frozen? ⟨w.heap.size, i, none⟩ = false := (Tx.blk KR1.out).2.1)))
  exact bodyPost_ret (v := .tuple #[.agg (Qr.encQ Qr.t0).toArray, .int .i64 3]) (by simp [results, Tryz.results15, go_sem, z0, z1, z2, z3, z4, z5]) rfl ⟨Qr.t0, rfl, Qr.q0_c _ _, Tx.put6 k1 (Nat.le_refl _) _ _ _ _ _ _⟩

set_option maxHeartbeats 3200000 in
theorem r21_Parse_3 (s : ByteArray) (w : World) (hl : ¬ 1000 < s.size) (hv : Tx.valid s.data.toList = true) (ho : (Qr.tokens s.data.toList).any (fun t => t.k == 34) = true) :
    Calls Tryz.prog 15 #[.string s] w fun e w' => ∃ t, e = .returned (.tuple #[.agg (Qr.encQ t).toArray, .int .i64 (Qr.parse s.data.toList).2]) ∧ Qr.QC w.heap.size w' (Qr.parse s.data.toList).1 (Qr.encQ t) ∧ Below w.heap.size w w' := by
  rw [Qr.parse_ref_bad (by rw [← Lib.size_eq]; exact hl) hv (fun q => Qr.open_quote ho)]
  have g1 : ¬ (1000 : Int) < (s.size : Int) := by omega
  have HV := Lib.hid hv; have HO := Lib.hid ho; clear hv ho
  obtain ⟨W, hW⟩ : ∃ W, w.alloc (.cells Qr.zeroQ 25) = W := ⟨_, rfl⟩
  have hB : Below w.heap.size w W := by rw [← hW]; exact Tx.newb _ _
  have hWs : W.heap.size = w.heap.size + 1 := by rw [← hW]; simp
  have KR : Hid (W.heap[w.heap.size]? = some (.cells Qr.zeroQ 25 (0, 0))) := Lib.hid (by rw [← hW]; exact heap_alloc_new w _)
  have z0 : W.cell? ⟨w.heap.size, 0, none⟩ = some (.int .i64 0) := (Tx.blk KR.out).1 0
  have z1 : W.cell? ⟨w.heap.size, 1, none⟩ = some (.int .i64 0) := (Tx.blk KR.out).1 1
  have z2 : W.cell? ⟨w.heap.size, 2, none⟩ = some (.slice none 0 0) := (Tx.blk KR.out).1 2
  have z3 : W.cell? ⟨w.heap.size, 3, none⟩ = some (.int .i64 0) := (Tx.blk KR.out).1 3
  have z4 : W.cell? ⟨w.heap.size, 4, none⟩ = some (.int .i64 0) := (Tx.blk KR.out).1 4
  have z5 : W.cell? ⟨w.heap.size, 5, none⟩ = some (.slice none 0 0) := (Tx.blk KR.out).1 5
  have zf : ∀ i, W.frozen? ⟨w.heap.size, i, none⟩ = false := (Tx.blk KR.out).2.1
  go_enter Tryz.func15, Tryz.ntmps15
  go_wp2_with (first
    | (go_at_call 31; ((with_reducible refine (r21_tokens_w s _ (by omega)).mono ?_); rintro e w2 hh; obtain ⟨rfl, hb2⟩ := hh.open_ HO.out; clear hh; have k2 := Tx.step k1 hb2; have s2 := hb2.size; have KR2 := Lib.hid (Tx.blk_later KR1.out hb2); have z0 : w2.cell? ⟨w.heap.size, 0, none⟩ = some (.int .i64 0) := (Tx.blk KR2.out).1 0; have z1 : w2.cell? ⟨w.heap.size, 1, none⟩ = some (.int .i64 0) := (Tx.blk KR2.out).1 1; have z2 : w2.cell? ⟨w.heap.size, 2, none⟩ = some (.slice none 0 0) := (Tx.blk KR2.out).1 2; have z3 : w2.cell? ⟨w.heap.size, 3, none⟩ = some (.int .i64 0) := (Tx.blk KR2.out).1 3; have z4 : w2.cell? ⟨w.heap.size, 4, none⟩ = some (.int .i64 0) := (Tx.blk KR2.out).1 4; have z5 : w2.cell? ⟨w.heap.size, 5, none⟩ = some (.slice none 0 0) := (Tx.blk KR2.out).1 5; have zf : ∀ i, w2.frozen? ⟨w.heap.size, i, none⟩ = false := (Tx.blk KR2.out).2.1))
    | (go_at_call 20; ((with_reducible refine (r01_Valid_c s _ (by omega)).mono ?_); rintro e w1 ⟨rfl, hb1⟩; rw [HV.out]; have k1 := Tx.step hB hb1; have s1 := hb1.size; have KR1 := Lib.hid (Tx.blk_later KR.out hb1); have z0 : w1.cell? ⟨w.heap.size, 0, none⟩ = some (.int .i64 0) := (Tx.blk KR1.out).1 0; have z1 : w1.cell? ⟨w.heap.size, 1, none⟩ = some (.int .i64 0) := (Tx.blk KR1.out).1 1; have z2 : w1.cell? ⟨w.heap.size, 2, none⟩ = some (.slice none 0 0) := (Tx.blk KR1.out).1 2; have z3 : w1.cell? ⟨w.heap.size, 3, none⟩ = some (.int .i64 0) := (Tx.blk KR1.out).1 3; have z4 : w1.cell? ⟨w.heap.size, 4, none⟩ = some (.int .i64 0) := (Tx.blk KR1.out).1 4; have z5 : w1.cell? ⟨w.heap.size, 5, none⟩ = some (.slice none 0 0) := (Tx.blk KR1.out).1 5; have zf : ∀ i, w1.frozen? ⟨w.heap.size, i, none⟩ = false := (Tx.blk KR1.out).2.1)))
  exact bodyPost_ret (v := .tuple #[.agg (Qr.encQ Qr.t0).toArray, .int .i64 3]) (by simp [results, Tryz.results15, go_sem, z0, z1, z2, z3, z4, z5]) rfl ⟨Qr.t0, rfl, Qr.q0_c _ _, Tx.put6 k2 (Nat.le_refl _) _ _ _ _ _ _⟩

set_option maxHeartbeats 3200000 in
theorem r21_Parse_4 (s : ByteArray) (w : World) (hl : ¬ 1000 < s.size) (hv : Tx.valid s.data.toList = true) (ho : (Qr.tokens s.data.toList).any (fun t => t.k == 34) = false) (hx : Qr.pOr false (8 * (Qr.tokens s.data.toList).length + 8) (Qr.tokens s.data.toList) = none) :
    Calls Tryz.prog 15 #[.string s] w fun e w' => ∃ t, e = .returned (.tuple #[.agg (Qr.encQ t).toArray, .int .i64 (Qr.parse s.data.toList).2]) ∧ Qr.QC w.heap.size w' (Qr.parse s.data.toList).1 (Qr.encQ t) ∧ Below w.heap.size w w' := by
  rw [Qr.parse_ref_bad (by rw [← Lib.size_eq]; exact hl) hv (fun q => by rw [hx]; simp)]
  have g1 : ¬ (1000 : Int) < (s.size : Int) := by omega
  have hok := Qr.tokF_ok hl hv
  have HV := Lib.hid hv; clear hv
  have GD : Hid (∀ {w w' : World} {e : Ending}, Qr.TokRes (Qr.tokens s.data.toList) w e w' → ∃ b o c, e = .returned (.tuple #[.slice (some ⟨b, o, none⟩) ((Qr.tokens s.data.toList).length + 1) c, .bool true]) ∧ Qr.RT w' (Qr.tokens s.data.toList) b o c ∧ Below w.heap.size w w') := Lib.hid (fun h => h.good ho hok.1 hok.2)
  obtain ⟨l, hL⟩ : ∃ l, Qr.tokens s.data.toList = l := ⟨_, rfl⟩
  rw [hL] at hx hok GD
  have HL := Lib.hid hL; clear hL ho
  have hll := hok.2
  have HOK := Lib.hid hok.1; clear hok
  have HX := Lib.hid hx; clear hx
  obtain ⟨W, hW⟩ : ∃ W, w.alloc (.cells Qr.zeroQ 25) = W := ⟨_, rfl⟩
  have hB : Below w.heap.size w W := by rw [← hW]; exact Tx.newb _ _
  have hWs : W.heap.size = w.heap.size + 1 := by rw [← hW]; simp
  have KR : Hid (W.heap[w.heap.size]? = some (.cells Qr.zeroQ 25 (0, 0))) := Lib.hid (by rw [← hW]; exact heap_alloc_new w _)
  have z0 : W.cell? ⟨w.heap.size, 0, none⟩ = some (.int .i64 0) := (Tx.blk KR.out).1 0
  have z1 : W.cell? ⟨w.heap.size, 1, none⟩ = some (.int .i64 0) := (Tx.blk KR.out).1 1
  have z2 : W.cell? ⟨w.heap.size, 2, none⟩ = some (.slice none 0 0) := (Tx.blk KR.out).1 2
  have z3 : W.cell? ⟨w.heap.size, 3, none⟩ = some (.int .i64 0) := (Tx.blk KR.out).1 3
  have z4 : W.cell? ⟨w.heap.size, 4, none⟩ = some (.int .i64 0) := (Tx.blk KR.out).1 4
  have z5 : W.cell? ⟨w.heap.size, 5, none⟩ = some (.slice none 0 0) := (Tx.blk KR.out).1 5
  have zf : ∀ i, W.frozen? ⟨w.heap.size, i, none⟩ = false := (Tx.blk KR.out).2.1
  go_enter Tryz.func15, Tryz.ntmps15
  go_wp2_with (first
    | (go_at_call 32; ((with_reducible refine (r21_or_at0 _ b o c _ (by omega) _ HX.out _ hRT).mono ?_); rintro e w3 hh; obtain ⟨qo, qf, qa, qb, qsa, qsn, qsc, qka, qkn, qkc, n, rfl, hb3⟩ := hh.bad; clear hh; have k3 := Tx.step k2 hb3; have s3 := hb3.size; have KR3 := Lib.hid (Tx.blk_later (Tx.blk_later KR2.out hb3) (Tx.newb w3 (.cells #[.int .i64 qo, .int .i64 qf, .slice qsa qsn qsc, .int .i64 qa, .int .i64 qb, .slice qka qkn qkc, .int .i64 n, .bool false] 52))); have k3a := k3.alloc k3.size (.cells #[.int .i64 qo, .int .i64 qf, .slice qsa qsn qsc, .int .i64 qa, .int .i64 qb, .slice qka qkn qkc, .int .i64 n, .bool false] 52); have z0 : (w3.alloc (.cells #[.int .i64 qo, .int .i64 qf, .slice qsa qsn qsc, .int .i64 qa, .int .i64 qb, .slice qka qkn qkc, .int .i64 n, .bool false] 52)).cell? ⟨w.heap.size, 0, none⟩ = some (.int .i64 0) := (Tx.blk KR3.out).1 0; have z1 : (w3.alloc (.cells #[.int .i64 qo, .int .i64 qf, .slice qsa qsn qsc, .int .i64 qa, .int .i64 qb, .slice qka qkn qkc, .int .i64 n, .bool false] 52)).cell? ⟨w.heap.size, 1, none⟩ = some (.int .i64 0) := (Tx.blk KR3.out).1 1; have z2 : (w3.alloc (.cells #[.int .i64 qo, .int .i64 qf, .slice qsa qsn qsc, .int .i64 qa, .int .i64 qb, .slice qka qkn qkc, .int .i64 n, .bool false] 52)).cell? ⟨w.heap.size, 2, none⟩ = some (.slice none 0 0) := (Tx.blk KR3.out).1 2; have z3 : (w3.alloc (.cells #[.int .i64 qo, .int .i64 qf, .slice qsa qsn qsc, .int .i64 qa, .int .i64 qb, .slice qka qkn qkc, .int .i64 n, .bool false] 52)).cell? ⟨w.heap.size, 3, none⟩ = some (.int .i64 0) := (Tx.blk KR3.out).1 3; have z4 : (w3.alloc (.cells #[.int .i64 qo, .int .i64 qf, .slice qsa qsn qsc, .int .i64 qa, .int .i64 qb, .slice qka qkn qkc, .int .i64 n, .bool false] 52)).cell? ⟨w.heap.size, 4, none⟩ = some (.int .i64 0) := (Tx.blk KR3.out).1 4; have z5 : (w3.alloc (.cells #[.int .i64 qo, .int .i64 qf, .slice qsa qsn qsc, .int .i64 qa, .int .i64 qb, .slice qka qkn qkc, .int .i64 n, .bool false] 52)).cell? ⟨w.heap.size, 5, none⟩ = some (.slice none 0 0) := (Tx.blk KR3.out).1 5; have zf : ∀ i, (w3.alloc (.cells #[.int .i64 qo, .int .i64 qf, .slice qsa qsn qsc, .int .i64 qa, .int .i64 qb, .slice qka qkn qkc, .int .i64 n, .bool false] 52)).frozen? ⟨w.heap.size, i, none⟩ = false := (Tx.blk KR3.out).2.1))
    | (go_at_call 31; ((with_reducible refine (r21_tokens_w s _ (by omega)).mono ?_); rintro e w2 hh; rw [HL.out] at hh; obtain ⟨b, o, c, rfl, hRT, hb2⟩ := GD.out hh; clear hh; have k2 := Tx.step k1 hb2; have s2 := hb2.size; have KR2 := Lib.hid (Tx.blk_later KR1.out hb2); have z0 : w2.cell? ⟨w.heap.size, 0, none⟩ = some (.int .i64 0) := (Tx.blk KR2.out).1 0; have z1 : w2.cell? ⟨w.heap.size, 1, none⟩ = some (.int .i64 0) := (Tx.blk KR2.out).1 1; have z2 : w2.cell? ⟨w.heap.size, 2, none⟩ = some (.slice none 0 0) := (Tx.blk KR2.out).1 2; have z3 : w2.cell? ⟨w.heap.size, 3, none⟩ = some (.int .i64 0) := (Tx.blk KR2.out).1 3; have z4 : w2.cell? ⟨w.heap.size, 4, none⟩ = some (.int .i64 0) := (Tx.blk KR2.out).1 4; have z5 : w2.cell? ⟨w.heap.size, 5, none⟩ = some (.slice none 0 0) := (Tx.blk KR2.out).1 5; have zf : ∀ i, w2.frozen? ⟨w.heap.size, i, none⟩ = false := (Tx.blk KR2.out).2.1))
    | (go_at_call 20; ((with_reducible refine (r01_Valid_c s _ (by omega)).mono ?_); rintro e w1 ⟨rfl, hb1⟩; rw [HV.out]; have k1 := Tx.step hB hb1; have s1 := hb1.size; have KR1 := Lib.hid (Tx.blk_later KR.out hb1); have z0 : w1.cell? ⟨w.heap.size, 0, none⟩ = some (.int .i64 0) := (Tx.blk KR1.out).1 0; have z1 : w1.cell? ⟨w.heap.size, 1, none⟩ = some (.int .i64 0) := (Tx.blk KR1.out).1 1; have z2 : w1.cell? ⟨w.heap.size, 2, none⟩ = some (.slice none 0 0) := (Tx.blk KR1.out).1 2; have z3 : w1.cell? ⟨w.heap.size, 3, none⟩ = some (.int .i64 0) := (Tx.blk KR1.out).1 3; have z4 : w1.cell? ⟨w.heap.size, 4, none⟩ = some (.int .i64 0) := (Tx.blk KR1.out).1 4; have z5 : w1.cell? ⟨w.heap.size, 5, none⟩ = some (.slice none 0 0) := (Tx.blk KR1.out).1 5; have zf : ∀ i, w1.frozen? ⟨w.heap.size, i, none⟩ = false := (Tx.blk KR1.out).2.1)))
  exact bodyPost_ret (v := .tuple #[.agg (Qr.encQ Qr.t0).toArray, .int .i64 3]) (by simp [results, Tryz.results15, go_sem, z0, z1, z2, z3, z4, z5]) rfl ⟨Qr.t0, rfl, Qr.q0_c _ _, Tx.put6 k3a (Nat.le_refl _) _ _ _ _ _ _⟩

set_option maxHeartbeats 3200000 in
theorem r21_Parse_5 (s : ByteArray) (w : World) (hl : ¬ 1000 < s.size) (hv : Tx.valid s.data.toList = true) (ho : (Qr.tokens s.data.toList).any (fun t => t.k == 34) = false) (q : Qr.Qy) (r : List Qr.Tok) (hx : Qr.pOr false (8 * (Qr.tokens s.data.toList).length + 8) (Qr.tokens s.data.toList) = some (q, r)) (hr : r ≠ []) :
    Calls Tryz.prog 15 #[.string s] w fun e w' => ∃ t, e = .returned (.tuple #[.agg (Qr.encQ t).toArray, .int .i64 (Qr.parse s.data.toList).2]) ∧ Qr.QC w.heap.size w' (Qr.parse s.data.toList).1 (Qr.encQ t) ∧ Below w.heap.size w w' := by
  rw [Qr.parse_ref_bad (by rw [← Lib.size_eq]; exact hl) hv (fun q => by rw [hx]; intro h; injection h with h; injection h with h1 h2; exact hr h2)]
  have g1 : ¬ (1000 : Int) < (s.size : Int) := by omega
  have hok := Qr.tokF_ok hl hv
  have HV := Lib.hid hv; clear hv
  have GD : Hid (∀ {w w' : World} {e : Ending}, Qr.TokRes (Qr.tokens s.data.toList) w e w' → ∃ b o c, e = .returned (.tuple #[.slice (some ⟨b, o, none⟩) ((Qr.tokens s.data.toList).length + 1) c, .bool true]) ∧ Qr.RT w' (Qr.tokens s.data.toList) b o c ∧ Below w.heap.size w w') := Lib.hid (fun h => h.good ho hok.1 hok.2)
  obtain ⟨l, hL⟩ : ∃ l, Qr.tokens s.data.toList = l := ⟨_, rfl⟩
  rw [hL] at hx hok GD
  have HL := Lib.hid hL; clear hL ho
  have hll := hok.2
  have HOK := Lib.hid hok.1; clear hok
  have hsuf := ((Qr.eats_all false (8 * l.length + 8)).1 l q r hx).1
  have HRS := Lib.hid hsuf
  have hsl := hsuf.length_le
  obtain ⟨A, hA⟩ : ∃ A, l.length - r.length = A := ⟨_, rfl⟩
  have hAl : A ≤ l.length := by omega
  have HA := Lib.hid hA; clear hA hsuf
  have hmx : maxLen = 9223372036854775807 := rfl
  have KN : Hid (∀ {w : World} {b o c : Nat}, Qr.RT w l b o c → (Qr.lk r).k ≠ 0) := Lib.hid (fun hRT h => by
    cases r with
    | nil => exact hr rfl
    | cons x y =>
      exact (Qr.toks_k0 s.data.toList x (by rw [HL.out]; exact HRS.out.subset (List.mem_cons_self ..))) h)
  have HX := Lib.hid hx; clear hx hr
  obtain ⟨W, hW⟩ : ∃ W, w.alloc (.cells Qr.zeroQ 25) = W := ⟨_, rfl⟩
  have hB : Below w.heap.size w W := by rw [← hW]; exact Tx.newb _ _
  have hWs : W.heap.size = w.heap.size + 1 := by rw [← hW]; simp
  have KR : Hid (W.heap[w.heap.size]? = some (.cells Qr.zeroQ 25 (0, 0))) := Lib.hid (by rw [← hW]; exact heap_alloc_new w _)
  have z0 : W.cell? ⟨w.heap.size, 0, none⟩ = some (.int .i64 0) := (Tx.blk KR.out).1 0
  have z1 : W.cell? ⟨w.heap.size, 1, none⟩ = some (.int .i64 0) := (Tx.blk KR.out).1 1
  have z2 : W.cell? ⟨w.heap.size, 2, none⟩ = some (.slice none 0 0) := (Tx.blk KR.out).1 2
  have z3 : W.cell? ⟨w.heap.size, 3, none⟩ = some (.int .i64 0) := (Tx.blk KR.out).1 3
  have z4 : W.cell? ⟨w.heap.size, 4, none⟩ = some (.int .i64 0) := (Tx.blk KR.out).1 4
  have z5 : W.cell? ⟨w.heap.size, 5, none⟩ = some (.slice none 0 0) := (Tx.blk KR.out).1 5
  have zf : ∀ i, W.frozen? ⟨w.heap.size, i, none⟩ = false := (Tx.blk KR.out).2.1
  go_enter Tryz.func15, Tryz.ntmps15
  go_wp2_with (first
    | (go_at_call 32; ((with_reducible refine (r21_or_at0 _ b o c _ (by omega) _ HX.out _ hRT).mono ?_); rintro e w3 hh; obtain ⟨qo, qf, qa, qb, qsa, qsn, qsc, qka, qkn, qkc, rfl, hq3, hb3⟩ := hh.get; rw [HA.out]; clear hh; have k3 := Tx.step k2 hb3; have s3 := hb3.size; have KR3 := Lib.hid (Tx.blk_later (Tx.blk_later KR2.out hb3) (Tx.newb w3 (.cells #[.int .i64 qo, .int .i64 qf, .slice qsa qsn qsc, .int .i64 qa, .int .i64 qb, .slice qka qkn qkc, .int .i64 (A : Int), .bool true] 52))); have k3a := k3.alloc k3.size (.cells #[.int .i64 qo, .int .i64 qf, .slice qsa qsn qsc, .int .i64 qa, .int .i64 qb, .slice qka qkn qkc, .int .i64 (A : Int), .bool true] 52); have z0 : (w3.alloc (.cells #[.int .i64 qo, .int .i64 qf, .slice qsa qsn qsc, .int .i64 qa, .int .i64 qb, .slice qka qkn qkc, .int .i64 (A : Int), .bool true] 52)).cell? ⟨w.heap.size, 0, none⟩ = some (.int .i64 0) := (Tx.blk KR3.out).1 0; have z1 : (w3.alloc (.cells #[.int .i64 qo, .int .i64 qf, .slice qsa qsn qsc, .int .i64 qa, .int .i64 qb, .slice qka qkn qkc, .int .i64 (A : Int), .bool true] 52)).cell? ⟨w.heap.size, 1, none⟩ = some (.int .i64 0) := (Tx.blk KR3.out).1 1; have z2 : (w3.alloc (.cells #[.int .i64 qo, .int .i64 qf, .slice qsa qsn qsc, .int .i64 qa, .int .i64 qb, .slice qka qkn qkc, .int .i64 (A : Int), .bool true] 52)).cell? ⟨w.heap.size, 2, none⟩ = some (.slice none 0 0) := (Tx.blk KR3.out).1 2; have z3 : (w3.alloc (.cells #[.int .i64 qo, .int .i64 qf, .slice qsa qsn qsc, .int .i64 qa, .int .i64 qb, .slice qka qkn qkc, .int .i64 (A : Int), .bool true] 52)).cell? ⟨w.heap.size, 3, none⟩ = some (.int .i64 0) := (Tx.blk KR3.out).1 3; have z4 : (w3.alloc (.cells #[.int .i64 qo, .int .i64 qf, .slice qsa qsn qsc, .int .i64 qa, .int .i64 qb, .slice qka qkn qkc, .int .i64 (A : Int), .bool true] 52)).cell? ⟨w.heap.size, 4, none⟩ = some (.int .i64 0) := (Tx.blk KR3.out).1 4; have z5 : (w3.alloc (.cells #[.int .i64 qo, .int .i64 qf, .slice qsa qsn qsc, .int .i64 qa, .int .i64 qb, .slice qka qkn qkc, .int .i64 (A : Int), .bool true] 52)).cell? ⟨w.heap.size, 5, none⟩ = some (.slice none 0 0) := (Tx.blk KR3.out).1 5; have zf : ∀ i, (w3.alloc (.cells #[.int .i64 qo, .int .i64 qf, .slice qsa qsn qsc, .int .i64 qa, .int .i64 qb, .slice qka qkn qkc, .int .i64 (A : Int), .bool true] 52)).frozen? ⟨w.heap.size, i, none⟩ = false := (Tx.blk KR3.out).2.1; have hRT3 := (hRT.below hb3); have hbl3 := hRT3.lt; have e0 := (hRT3.at_ r HRS.out).1; rw [HA.out] at e0; have e0a := cell_later (Tx.newb w3 (.cells #[.int .i64 qo, .int .i64 qf, .slice qsa qsn qsc, .int .i64 qa, .int .i64 qb, .slice qka qkn qkc, .int .i64 (A : Int), .bool true] 52)) e0; have hcap := hRT3.cap; have hmax := hRT3.max))
    | (go_at_call 31; ((with_reducible refine (r21_tokens_w s _ (by omega)).mono ?_); rintro e w2 hh; rw [HL.out] at hh; obtain ⟨b, o, c, rfl, hRT, hb2⟩ := GD.out hh; clear hh; have hk3 := (Qr.kR_eq (hRT.leg HRS.out)).2.2.1; have hkn : (Qr.kR (Qr.lk r).k != 0) = true := (by rw [bne, beq_eq_false_iff_ne.2 (fun h => KN.out hRT (hk3.1 h))]; rfl); have k2 := Tx.step k1 hb2; have s2 := hb2.size; have KR2 := Lib.hid (Tx.blk_later KR1.out hb2); have z0 : w2.cell? ⟨w.heap.size, 0, none⟩ = some (.int .i64 0) := (Tx.blk KR2.out).1 0; have z1 : w2.cell? ⟨w.heap.size, 1, none⟩ = some (.int .i64 0) := (Tx.blk KR2.out).1 1; have z2 : w2.cell? ⟨w.heap.size, 2, none⟩ = some (.slice none 0 0) := (Tx.blk KR2.out).1 2; have z3 : w2.cell? ⟨w.heap.size, 3, none⟩ = some (.int .i64 0) := (Tx.blk KR2.out).1 3; have z4 : w2.cell? ⟨w.heap.size, 4, none⟩ = some (.int .i64 0) := (Tx.blk KR2.out).1 4; have z5 : w2.cell? ⟨w.heap.size, 5, none⟩ = some (.slice none 0 0) := (Tx.blk KR2.out).1 5; have zf : ∀ i, w2.frozen? ⟨w.heap.size, i, none⟩ = false := (Tx.blk KR2.out).2.1))
    | (go_at_call 20; ((with_reducible refine (r01_Valid_c s _ (by omega)).mono ?_); rintro e w1 ⟨rfl, hb1⟩; rw [HV.out]; have k1 := Tx.step hB hb1; have s1 := hb1.size; have KR1 := Lib.hid (Tx.blk_later KR.out hb1); have z0 : w1.cell? ⟨w.heap.size, 0, none⟩ = some (.int .i64 0) := (Tx.blk KR1.out).1 0; have z1 : w1.cell? ⟨w.heap.size, 1, none⟩ = some (.int .i64 0) := (Tx.blk KR1.out).1 1; have z2 : w1.cell? ⟨w.heap.size, 2, none⟩ = some (.slice none 0 0) := (Tx.blk KR1.out).1 2; have z3 : w1.cell? ⟨w.heap.size, 3, none⟩ = some (.int .i64 0) := (Tx.blk KR1.out).1 3; have z4 : w1.cell? ⟨w.heap.size, 4, none⟩ = some (.int .i64 0) := (Tx.blk KR1.out).1 4; have z5 : w1.cell? ⟨w.heap.size, 5, none⟩ = some (.slice none 0 0) := (Tx.blk KR1.out).1 5; have zf : ∀ i, w1.frozen? ⟨w.heap.size, i, none⟩ = false := (Tx.blk KR1.out).2.1)))
  exact bodyPost_ret (v := .tuple #[.agg (Qr.encQ Qr.t0).toArray, .int .i64 3]) (by simp [results, Tryz.results15, go_sem, z0, z1, z2, z3, z4, z5]) rfl ⟨Qr.t0, rfl, Qr.q0_c _ _, Tx.put6 k3a (Nat.le_refl _) _ _ _ _ _ _⟩

set_option maxHeartbeats 3200000 in
theorem r21_Parse_6 (s : ByteArray) (w : World) (hl : ¬ 1000 < s.size) (hv : Tx.valid s.data.toList = true) (ho : (Qr.tokens s.data.toList).any (fun t => t.k == 34) = false) (q : Qr.Qy) (hx : Qr.pOr false (8 * (Qr.tokens s.data.toList).length + 8) (Qr.tokens s.data.toList) = some (q, [])) (E : Int) (hE : Qr.rightE q = E) (hE0 : E ≠ 0) :
    Calls Tryz.prog 15 #[.string s] w fun e w' => ∃ t, e = .returned (.tuple #[.agg (Qr.encQ t).toArray, .int .i64 (Qr.parse s.data.toList).2]) ∧ Qr.QC w.heap.size w' (Qr.parse s.data.toList).1 (Qr.encQ t) ∧ Below w.heap.size w w' := by
  rw [Qr.parse_ref_end (by rw [← Lib.size_eq]; exact hl) hv hx, hE, if_neg hE0]
  have g1 : ¬ (1000 : Int) < (s.size : Int) := by omega
  have hok := Qr.tokF_ok hl hv
  have HV := Lib.hid hv; clear hv
  have GD : Hid (∀ {w w' : World} {e : Ending}, Qr.TokRes (Qr.tokens s.data.toList) w e w' → ∃ b o c, e = .returned (.tuple #[.slice (some ⟨b, o, none⟩) ((Qr.tokens s.data.toList).length + 1) c, .bool true]) ∧ Qr.RT w' (Qr.tokens s.data.toList) b o c ∧ Below w.heap.size w w') := Lib.hid (fun h => h.good ho hok.1 hok.2)
  obtain ⟨l, hL⟩ : ∃ l, Qr.tokens s.data.toList = l := ⟨_, rfl⟩
  rw [hL] at hx hok GD
  have HL := Lib.hid hL; clear hL ho
  have hll := hok.2
  have HOK := Lib.hid hok.1; clear hok
  have hsuf := ((Qr.eats_all false (8 * l.length + 8)).1 l q [] hx).1
  have HRS := Lib.hid hsuf
  have hsl := hsuf.length_le
  obtain ⟨A, hA⟩ : ∃ A, l.length - ([] : List Qr.Tok).length = A := ⟨_, rfl⟩
  have hAl : A ≤ l.length := by omega
  have HA := Lib.hid hA; clear hA hsuf
  have hmx : maxLen = 9223372036854775807 := rfl
  have hnd := (Qr.nodes_all false (8 * l.length + 8)).1 l q [] hx
  have HND : Hid (Qr.nodes q ≤ 2000) := Lib.hid (by omega)
  have HWZ := Lib.hid ((Qr.wz_all false (8 * l.length + 8)).1 l HOK.out q [] hx)
  have HX := Lib.hid hx; clear hx hnd
  have HE := Lib.hid hE; clear hE
  have hEn : (E != 0) = true := by rw [bne, beq_eq_false_iff_ne.2 hE0]; rfl
  obtain ⟨W, hW⟩ : ∃ W, w.alloc (.cells Qr.zeroQ 25) = W := ⟨_, rfl⟩
  have hB : Below w.heap.size w W := by rw [← hW]; exact Tx.newb _ _
  have hWs : W.heap.size = w.heap.size + 1 := by rw [← hW]; simp
  have KR : Hid (W.heap[w.heap.size]? = some (.cells Qr.zeroQ 25 (0, 0))) := Lib.hid (by rw [← hW]; exact heap_alloc_new w _)
  have z0 : W.cell? ⟨w.heap.size, 0, none⟩ = some (.int .i64 0) := (Tx.blk KR.out).1 0
  have z1 : W.cell? ⟨w.heap.size, 1, none⟩ = some (.int .i64 0) := (Tx.blk KR.out).1 1
  have z2 : W.cell? ⟨w.heap.size, 2, none⟩ = some (.slice none 0 0) := (Tx.blk KR.out).1 2
  have z3 : W.cell? ⟨w.heap.size, 3, none⟩ = some (.int .i64 0) := (Tx.blk KR.out).1 3
  have z4 : W.cell? ⟨w.heap.size, 4, none⟩ = some (.int .i64 0) := (Tx.blk KR.out).1 4
  have z5 : W.cell? ⟨w.heap.size, 5, none⟩ = some (.slice none 0 0) := (Tx.blk KR.out).1 5
  have zf : ∀ i, W.frozen? ⟨w.heap.size, i, none⟩ = false := (Tx.blk KR.out).2.1
  go_enter Tryz.func15, Tryz.ntmps15
  go_wp2_with (first
    | (go_at_call 11; refine (r21_Right_c w2.heap.size q _ _ (hq3.later (Tx.newb w3 _)) HWZ.out (by have := HND.out; omega)).mono ?_; rintro e w4 ⟨rfl, hb4⟩; rw [HE.out]; have k4 := Tx.step k3a hb4; have s4 := hb4.size; have KR4 := Lib.hid (Tx.blk_later KR3.out hb4); have KP4 := Lib.hid (Tx.blk_later (heap_alloc_new w3 (.cells #[.int .i64 qo, .int .i64 qf, .slice qsa qsn qsc, .int .i64 qa, .int .i64 qb, .slice qka qkn qkc, .int .i64 (A : Int), .bool true] 52)) hb4); have hq4 := (hq3.later (Tx.newb w3 _)).later hb4; have z0 : w4.cell? ⟨w.heap.size, 0, none⟩ = some (.int .i64 0) := (Tx.blk KR4.out).1 0; have z1 : w4.cell? ⟨w.heap.size, 1, none⟩ = some (.int .i64 0) := (Tx.blk KR4.out).1 1; have z2 : w4.cell? ⟨w.heap.size, 2, none⟩ = some (.slice none 0 0) := (Tx.blk KR4.out).1 2; have z3 : w4.cell? ⟨w.heap.size, 3, none⟩ = some (.int .i64 0) := (Tx.blk KR4.out).1 3; have z4 : w4.cell? ⟨w.heap.size, 4, none⟩ = some (.int .i64 0) := (Tx.blk KR4.out).1 4; have z5 : w4.cell? ⟨w.heap.size, 5, none⟩ = some (.slice none 0 0) := (Tx.blk KR4.out).1 5; have zf : ∀ i, w4.frozen? ⟨w.heap.size, i, none⟩ = false := (Tx.blk KR4.out).2.1; have p0 : w4.cell? ⟨w3.heap.size, 0, none⟩ = some (.int .i64 qo) := (Tx.blk KP4.out).1 0; have p1 : w4.cell? ⟨w3.heap.size, 1, none⟩ = some (.int .i64 qf) := (Tx.blk KP4.out).1 1; have p2 : w4.cell? ⟨w3.heap.size, 2, none⟩ = some (.slice qsa qsn qsc) := (Tx.blk KP4.out).1 2; have p3 : w4.cell? ⟨w3.heap.size, 3, none⟩ = some (.int .i64 qa) := (Tx.blk KP4.out).1 3; have p4 : w4.cell? ⟨w3.heap.size, 4, none⟩ = some (.int .i64 qb) := (Tx.blk KP4.out).1 4; have p5 : w4.cell? ⟨w3.heap.size, 5, none⟩ = some (.slice qka qkn qkc) := (Tx.blk KP4.out).1 5)
    | (go_at_call 32; ((with_reducible refine (r21_or_at0 _ b o c _ (by omega) _ HX.out _ hRT).mono ?_); rintro e w3 hh; obtain ⟨qo, qf, qa, qb, qsa, qsn, qsc, qka, qkn, qkc, rfl, hq3, hb3⟩ := hh.get; rw [HA.out]; clear hh; have k3 := Tx.step k2 hb3; have s3 := hb3.size; have KR3 := Lib.hid (Tx.blk_later (Tx.blk_later KR2.out hb3) (Tx.newb w3 (.cells #[.int .i64 qo, .int .i64 qf, .slice qsa qsn qsc, .int .i64 qa, .int .i64 qb, .slice qka qkn qkc, .int .i64 (A : Int), .bool true] 52))); have k3a := k3.alloc k3.size (.cells #[.int .i64 qo, .int .i64 qf, .slice qsa qsn qsc, .int .i64 qa, .int .i64 qb, .slice qka qkn qkc, .int .i64 (A : Int), .bool true] 52); have z0 : (w3.alloc (.cells #[.int .i64 qo, .int .i64 qf, .slice qsa qsn qsc, .int .i64 qa, .int .i64 qb, .slice qka qkn qkc, .int .i64 (A : Int), .bool true] 52)).cell? ⟨w.heap.size, 0, none⟩ = some (.int .i64 0) := (Tx.blk KR3.out).1 0; have z1 : (w3.alloc (.cells #[.int .i64 qo, .int .i64 qf, .slice qsa qsn qsc, .int .i64 qa, .int .i64 qb, .slice qka qkn qkc, .int .i64 (A : Int), .bool true] 52)).cell? ⟨w.heap.size, 1, none⟩ = some (.int .i64 0) := (Tx.blk KR3.out).1 1; have z2 : (w3.alloc (.cells #[.int .i64 qo, .int .i64 qf, .slice qsa qsn qsc, .int .i64 qa, .int .i64 qb, .slice qka qkn qkc, .int .i64 (A : Int), .bool true] 52)).cell? ⟨w.heap.size, 2, none⟩ = some (.slice none 0 0) := (Tx.blk KR3.out).1 2; have z3 : (w3.alloc (.cells #[.int .i64 qo, .int .i64 qf, .slice qsa qsn qsc, .int .i64 qa, .int .i64 qb, .slice qka qkn qkc, .int .i64 (A : Int), .bool true] 52)).cell? ⟨w.heap.size, 3, none⟩ = some (.int .i64 0) := (Tx.blk KR3.out).1 3; have z4 : (w3.alloc (.cells #[.int .i64 qo, .int .i64 qf, .slice qsa qsn qsc, .int .i64 qa, .int .i64 qb, .slice qka qkn qkc, .int .i64 (A : Int), .bool true] 52)).cell? ⟨w.heap.size, 4, none⟩ = some (.int .i64 0) := (Tx.blk KR3.out).1 4; have z5 : (w3.alloc (.cells #[.int .i64 qo, .int .i64 qf, .slice qsa qsn qsc, .int .i64 qa, .int .i64 qb, .slice qka qkn qkc, .int .i64 (A : Int), .bool true] 52)).cell? ⟨w.heap.size, 5, none⟩ = some (.slice none 0 0) := (Tx.blk KR3.out).1 5; have zf : ∀ i, (w3.alloc (.cells #[.int .i64 qo, .int .i64 qf, .slice qsa qsn qsc, .int .i64 qa, .int .i64 qb, .slice qka qkn qkc, .int .i64 (A : Int), .bool true] 52)).frozen? ⟨w.heap.size, i, none⟩ = false := (Tx.blk KR3.out).2.1; have hRT3 := (hRT.below hb3); have hbl3 := hRT3.lt; have e0 := (hRT3.at_ [] HRS.out).1; rw [HA.out] at e0; have e0a := cell_later (Tx.newb w3 (.cells #[.int .i64 qo, .int .i64 qf, .slice qsa qsn qsc, .int .i64 qa, .int .i64 qb, .slice qka qkn qkc, .int .i64 (A : Int), .bool true] 52)) e0; have hcap := hRT3.cap; have hmax := hRT3.max))
    | (go_at_call 31; ((with_reducible refine (r21_tokens_w s _ (by omega)).mono ?_); rintro e w2 hh; rw [HL.out] at hh; obtain ⟨b, o, c, rfl, hRT, hb2⟩ := GD.out hh; clear hh; have k2 := Tx.step k1 hb2; have s2 := hb2.size; have KR2 := Lib.hid (Tx.blk_later KR1.out hb2); have z0 : w2.cell? ⟨w.heap.size, 0, none⟩ = some (.int .i64 0) := (Tx.blk KR2.out).1 0; have z1 : w2.cell? ⟨w.heap.size, 1, none⟩ = some (.int .i64 0) := (Tx.blk KR2.out).1 1; have z2 : w2.cell? ⟨w.heap.size, 2, none⟩ = some (.slice none 0 0) := (Tx.blk KR2.out).1 2; have z3 : w2.cell? ⟨w.heap.size, 3, none⟩ = some (.int .i64 0) := (Tx.blk KR2.out).1 3; have z4 : w2.cell? ⟨w.heap.size, 4, none⟩ = some (.int .i64 0) := (Tx.blk KR2.out).1 4; have z5 : w2.cell? ⟨w.heap.size, 5, none⟩ = some (.slice none 0 0) := (Tx.blk KR2.out).1 5; have zf : ∀ i, w2.frozen? ⟨w.heap.size, i, none⟩ = false := (Tx.blk KR2.out).2.1))
    | (go_at_call 20; ((with_reducible refine (r01_Valid_c s _ (by omega)).mono ?_); rintro e w1 ⟨rfl, hb1⟩; rw [HV.out]; have k1 := Tx.step hB hb1; have s1 := hb1.size; have KR1 := Lib.hid (Tx.blk_later KR.out hb1); have z0 : w1.cell? ⟨w.heap.size, 0, none⟩ = some (.int .i64 0) := (Tx.blk KR1.out).1 0; have z1 : w1.cell? ⟨w.heap.size, 1, none⟩ = some (.int .i64 0) := (Tx.blk KR1.out).1 1; have z2 : w1.cell? ⟨w.heap.size, 2, none⟩ = some (.slice none 0 0) := (Tx.blk KR1.out).1 2; have z3 : w1.cell? ⟨w.heap.size, 3, none⟩ = some (.int .i64 0) := (Tx.blk KR1.out).1 3; have z4 : w1.cell? ⟨w.heap.size, 4, none⟩ = some (.int .i64 0) := (Tx.blk KR1.out).1 4; have z5 : w1.cell? ⟨w.heap.size, 5, none⟩ = some (.slice none 0 0) := (Tx.blk KR1.out).1 5; have zf : ∀ i, w1.frozen? ⟨w.heap.size, i, none⟩ = false := (Tx.blk KR1.out).2.1)))
  exact bodyPost_ret (v := .tuple #[.agg (Qr.encQ Qr.t0).toArray, .int .i64 E]) (by simp [results, Tryz.results15, go_sem, z0, z1, z2, z3, z4, z5]) rfl ⟨Qr.t0, rfl, Qr.q0_c _ _, Tx.put6 k4 (Nat.le_refl _) _ _ _ _ _ _⟩

set_option maxHeartbeats 3200000 in
theorem r21_Parse_7 (s : ByteArray) (w : World) (hl : ¬ 1000 < s.size) (hv : Tx.valid s.data.toList = true) (ho : (Qr.tokens s.data.toList).any (fun t => t.k == 34) = false) (q : Qr.Qy) (hx : Qr.pOr false (8 * (Qr.tokens s.data.toList).length + 8) (Qr.tokens s.data.toList) = some (q, [])) (hE : Qr.rightE q = 0) :
    Calls Tryz.prog 15 #[.string s] w fun e w' => ∃ t, e = .returned (.tuple #[.agg (Qr.encQ t).toArray, .int .i64 (Qr.parse s.data.toList).2]) ∧ Qr.QC w.heap.size w' (Qr.parse s.data.toList).1 (Qr.encQ t) ∧ Below w.heap.size w w' := by
  rw [Qr.parse_ref_end (by rw [← Lib.size_eq]; exact hl) hv hx, if_pos hE]
  have g1 : ¬ (1000 : Int) < (s.size : Int) := by omega
  have hok := Qr.tokF_ok hl hv
  have HV := Lib.hid hv; clear hv
  have GD : Hid (∀ {w w' : World} {e : Ending}, Qr.TokRes (Qr.tokens s.data.toList) w e w' → ∃ b o c, e = .returned (.tuple #[.slice (some ⟨b, o, none⟩) ((Qr.tokens s.data.toList).length + 1) c, .bool true]) ∧ Qr.RT w' (Qr.tokens s.data.toList) b o c ∧ Below w.heap.size w w') := Lib.hid (fun h => h.good ho hok.1 hok.2)
  obtain ⟨l, hL⟩ : ∃ l, Qr.tokens s.data.toList = l := ⟨_, rfl⟩
  rw [hL] at hx hok GD
  have HL := Lib.hid hL; clear hL ho
  have hll := hok.2
  have HOK := Lib.hid hok.1; clear hok
  have hsuf := ((Qr.eats_all false (8 * l.length + 8)).1 l q [] hx).1
  have HRS := Lib.hid hsuf
  have hsl := hsuf.length_le
  obtain ⟨A, hA⟩ : ∃ A, l.length - ([] : List Qr.Tok).length = A := ⟨_, rfl⟩
  have hAl : A ≤ l.length := by omega
  have HA := Lib.hid hA; clear hA hsuf
  have hmx : maxLen = 9223372036854775807 := rfl
  have hnd := (Qr.nodes_all false (8 * l.length + 8)).1 l q [] hx
  have HND : Hid (Qr.nodes q ≤ 2000) := Lib.hid (by omega)
  have HWZ := Lib.hid ((Qr.wz_all false (8 * l.length + 8)).1 l HOK.out q [] hx)
  have HX := Lib.hid hx; clear hx hnd
  have HE := Lib.hid hE; clear hE
  obtain ⟨W, hW⟩ : ∃ W, w.alloc (.cells Qr.zeroQ 25) = W := ⟨_, rfl⟩
  have hB : Below w.heap.size w W := by rw [← hW]; exact Tx.newb _ _
  have hWs : W.heap.size = w.heap.size + 1 := by rw [← hW]; simp
  have KR : Hid (W.heap[w.heap.size]? = some (.cells Qr.zeroQ 25 (0, 0))) := Lib.hid (by rw [← hW]; exact heap_alloc_new w _)
  have z0 : W.cell? ⟨w.heap.size, 0, none⟩ = some (.int .i64 0) := (Tx.blk KR.out).1 0
  have z1 : W.cell? ⟨w.heap.size, 1, none⟩ = some (.int .i64 0) := (Tx.blk KR.out).1 1
  have z2 : W.cell? ⟨w.heap.size, 2, none⟩ = some (.slice none 0 0) := (Tx.blk KR.out).1 2
  have z3 : W.cell? ⟨w.heap.size, 3, none⟩ = some (.int .i64 0) := (Tx.blk KR.out).1 3
  have z4 : W.cell? ⟨w.heap.size, 4, none⟩ = some (.int .i64 0) := (Tx.blk KR.out).1 4
  have z5 : W.cell? ⟨w.heap.size, 5, none⟩ = some (.slice none 0 0) := (Tx.blk KR.out).1 5
  have zf : ∀ i, W.frozen? ⟨w.heap.size, i, none⟩ = false := (Tx.blk KR.out).2.1
  go_enter Tryz.func15, Tryz.ntmps15
  go_wp2_with (first
    | (go_at_call 11; refine (r21_Right_c w2.heap.size q _ _ (hq3.later (Tx.newb w3 _)) HWZ.out (by have := HND.out; omega)).mono ?_; rintro e w4 ⟨rfl, hb4⟩; rw [HE.out]; have k4 := Tx.step k3a hb4; have s4 := hb4.size; have KR4 := Lib.hid (Tx.blk_later KR3.out hb4); have KP4 := Lib.hid (Tx.blk_later (heap_alloc_new w3 (.cells #[.int .i64 qo, .int .i64 qf, .slice qsa qsn qsc, .int .i64 qa, .int .i64 qb, .slice qka qkn qkc, .int .i64 (A : Int), .bool true] 52)) hb4); have hq4 := (hq3.later (Tx.newb w3 _)).later hb4; have z0 : w4.cell? ⟨w.heap.size, 0, none⟩ = some (.int .i64 0) := (Tx.blk KR4.out).1 0; have z1 : w4.cell? ⟨w.heap.size, 1, none⟩ = some (.int .i64 0) := (Tx.blk KR4.out).1 1; have z2 : w4.cell? ⟨w.heap.size, 2, none⟩ = some (.slice none 0 0) := (Tx.blk KR4.out).1 2; have z3 : w4.cell? ⟨w.heap.size, 3, none⟩ = some (.int .i64 0) := (Tx.blk KR4.out).1 3; have z4 : w4.cell? ⟨w.heap.size, 4, none⟩ = some (.int .i64 0) := (Tx.blk KR4.out).1 4; have z5 : w4.cell? ⟨w.heap.size, 5, none⟩ = some (.slice none 0 0) := (Tx.blk KR4.out).1 5; have zf : ∀ i, w4.frozen? ⟨w.heap.size, i, none⟩ = false := (Tx.blk KR4.out).2.1; have p0 : w4.cell? ⟨w3.heap.size, 0, none⟩ = some (.int .i64 qo) := (Tx.blk KP4.out).1 0; have p1 : w4.cell? ⟨w3.heap.size, 1, none⟩ = some (.int .i64 qf) := (Tx.blk KP4.out).1 1; have p2 : w4.cell? ⟨w3.heap.size, 2, none⟩ = some (.slice qsa qsn qsc) := (Tx.blk KP4.out).1 2; have p3 : w4.cell? ⟨w3.heap.size, 3, none⟩ = some (.int .i64 qa) := (Tx.blk KP4.out).1 3; have p4 : w4.cell? ⟨w3.heap.size, 4, none⟩ = some (.int .i64 qb) := (Tx.blk KP4.out).1 4; have p5 : w4.cell? ⟨w3.heap.size, 5, none⟩ = some (.slice qka qkn qkc) := (Tx.blk KP4.out).1 5)
    | (go_at_call 32; ((with_reducible refine (r21_or_at0 _ b o c _ (by omega) _ HX.out _ hRT).mono ?_); rintro e w3 hh; obtain ⟨qo, qf, qa, qb, qsa, qsn, qsc, qka, qkn, qkc, rfl, hq3, hb3⟩ := hh.get; rw [HA.out]; clear hh; have k3 := Tx.step k2 hb3; have s3 := hb3.size; have KR3 := Lib.hid (Tx.blk_later (Tx.blk_later KR2.out hb3) (Tx.newb w3 (.cells #[.int .i64 qo, .int .i64 qf, .slice qsa qsn qsc, .int .i64 qa, .int .i64 qb, .slice qka qkn qkc, .int .i64 (A : Int), .bool true] 52))); have k3a := k3.alloc k3.size (.cells #[.int .i64 qo, .int .i64 qf, .slice qsa qsn qsc, .int .i64 qa, .int .i64 qb, .slice qka qkn qkc, .int .i64 (A : Int), .bool true] 52); have z0 : (w3.alloc (.cells #[.int .i64 qo, .int .i64 qf, .slice qsa qsn qsc, .int .i64 qa, .int .i64 qb, .slice qka qkn qkc, .int .i64 (A : Int), .bool true] 52)).cell? ⟨w.heap.size, 0, none⟩ = some (.int .i64 0) := (Tx.blk KR3.out).1 0; have z1 : (w3.alloc (.cells #[.int .i64 qo, .int .i64 qf, .slice qsa qsn qsc, .int .i64 qa, .int .i64 qb, .slice qka qkn qkc, .int .i64 (A : Int), .bool true] 52)).cell? ⟨w.heap.size, 1, none⟩ = some (.int .i64 0) := (Tx.blk KR3.out).1 1; have z2 : (w3.alloc (.cells #[.int .i64 qo, .int .i64 qf, .slice qsa qsn qsc, .int .i64 qa, .int .i64 qb, .slice qka qkn qkc, .int .i64 (A : Int), .bool true] 52)).cell? ⟨w.heap.size, 2, none⟩ = some (.slice none 0 0) := (Tx.blk KR3.out).1 2; have z3 : (w3.alloc (.cells #[.int .i64 qo, .int .i64 qf, .slice qsa qsn qsc, .int .i64 qa, .int .i64 qb, .slice qka qkn qkc, .int .i64 (A : Int), .bool true] 52)).cell? ⟨w.heap.size, 3, none⟩ = some (.int .i64 0) := (Tx.blk KR3.out).1 3; have z4 : (w3.alloc (.cells #[.int .i64 qo, .int .i64 qf, .slice qsa qsn qsc, .int .i64 qa, .int .i64 qb, .slice qka qkn qkc, .int .i64 (A : Int), .bool true] 52)).cell? ⟨w.heap.size, 4, none⟩ = some (.int .i64 0) := (Tx.blk KR3.out).1 4; have z5 : (w3.alloc (.cells #[.int .i64 qo, .int .i64 qf, .slice qsa qsn qsc, .int .i64 qa, .int .i64 qb, .slice qka qkn qkc, .int .i64 (A : Int), .bool true] 52)).cell? ⟨w.heap.size, 5, none⟩ = some (.slice none 0 0) := (Tx.blk KR3.out).1 5; have zf : ∀ i, (w3.alloc (.cells #[.int .i64 qo, .int .i64 qf, .slice qsa qsn qsc, .int .i64 qa, .int .i64 qb, .slice qka qkn qkc, .int .i64 (A : Int), .bool true] 52)).frozen? ⟨w.heap.size, i, none⟩ = false := (Tx.blk KR3.out).2.1; have hRT3 := (hRT.below hb3); have hbl3 := hRT3.lt; have e0 := (hRT3.at_ [] HRS.out).1; rw [HA.out] at e0; have e0a := cell_later (Tx.newb w3 (.cells #[.int .i64 qo, .int .i64 qf, .slice qsa qsn qsc, .int .i64 qa, .int .i64 qb, .slice qka qkn qkc, .int .i64 (A : Int), .bool true] 52)) e0; have hcap := hRT3.cap; have hmax := hRT3.max))
    | (go_at_call 31; ((with_reducible refine (r21_tokens_w s _ (by omega)).mono ?_); rintro e w2 hh; rw [HL.out] at hh; obtain ⟨b, o, c, rfl, hRT, hb2⟩ := GD.out hh; clear hh; have k2 := Tx.step k1 hb2; have s2 := hb2.size; have KR2 := Lib.hid (Tx.blk_later KR1.out hb2); have z0 : w2.cell? ⟨w.heap.size, 0, none⟩ = some (.int .i64 0) := (Tx.blk KR2.out).1 0; have z1 : w2.cell? ⟨w.heap.size, 1, none⟩ = some (.int .i64 0) := (Tx.blk KR2.out).1 1; have z2 : w2.cell? ⟨w.heap.size, 2, none⟩ = some (.slice none 0 0) := (Tx.blk KR2.out).1 2; have z3 : w2.cell? ⟨w.heap.size, 3, none⟩ = some (.int .i64 0) := (Tx.blk KR2.out).1 3; have z4 : w2.cell? ⟨w.heap.size, 4, none⟩ = some (.int .i64 0) := (Tx.blk KR2.out).1 4; have z5 : w2.cell? ⟨w.heap.size, 5, none⟩ = some (.slice none 0 0) := (Tx.blk KR2.out).1 5; have zf : ∀ i, w2.frozen? ⟨w.heap.size, i, none⟩ = false := (Tx.blk KR2.out).2.1))
    | (go_at_call 20; ((with_reducible refine (r01_Valid_c s _ (by omega)).mono ?_); rintro e w1 ⟨rfl, hb1⟩; rw [HV.out]; have k1 := Tx.step hB hb1; have s1 := hb1.size; have KR1 := Lib.hid (Tx.blk_later KR.out hb1); have z0 : w1.cell? ⟨w.heap.size, 0, none⟩ = some (.int .i64 0) := (Tx.blk KR1.out).1 0; have z1 : w1.cell? ⟨w.heap.size, 1, none⟩ = some (.int .i64 0) := (Tx.blk KR1.out).1 1; have z2 : w1.cell? ⟨w.heap.size, 2, none⟩ = some (.slice none 0 0) := (Tx.blk KR1.out).1 2; have z3 : w1.cell? ⟨w.heap.size, 3, none⟩ = some (.int .i64 0) := (Tx.blk KR1.out).1 3; have z4 : w1.cell? ⟨w.heap.size, 4, none⟩ = some (.int .i64 0) := (Tx.blk KR1.out).1 4; have z5 : w1.cell? ⟨w.heap.size, 5, none⟩ = some (.slice none 0 0) := (Tx.blk KR1.out).1 5; have zf : ∀ i, w1.frozen? ⟨w.heap.size, i, none⟩ = false := (Tx.blk KR1.out).2.1)))
  exact bodyPost_ret (v := .tuple #[.agg #[.int .i64 qo, .int .i64 qf, .slice qsa qsn qsc, .int .i64 qa, .int .i64 qb, .slice qka qkn qkc], .int .i64 0]) (by simp [results, Tryz.results15, go_sem, z0, z1, z2, z3, z4, z5]) rfl ⟨⟨qo, qf, qsa, qsn, qsc, qa, qb, qka, qkn, qkc⟩, rfl, (hq4.kp (Qr.Kp.put6 (Qr.Kp.refl _ _) (by omega) _ _ _ _ _ _)).mono (by omega), Tx.put6 k4 (Nat.le_refl _) _ _ _ _ _ _⟩

theorem r21_Parse_c (s : ByteArray) (w : World) :
    Calls Tryz.prog 15 #[.string s] w fun e w' => ∃ t, e = .returned (.tuple #[.agg (Qr.encQ t).toArray, .int .i64 (Qr.parse s.data.toList).2]) ∧ Qr.QC w.heap.size w' (Qr.parse s.data.toList).1 (Qr.encQ t) ∧ Below w.heap.size w w' := by
  by_cases hl : 1000 < s.size
  · exact r21_Parse_1 s w hl
  cases hv : Tx.valid s.data.toList with
  | false => exact r21_Parse_2 s w hl hv
  | true =>
    cases ho : (Qr.tokens s.data.toList).any (fun t => t.k == 34) with
    | true => exact r21_Parse_3 s w hl hv ho
    | false =>
      rcases hx : Qr.pOr false (8 * (Qr.tokens s.data.toList).length + 8) (Qr.tokens s.data.toList) with _ | ⟨q, _ | ⟨a, r⟩⟩
      · exact r21_Parse_4 s w hl hv ho hx
      · by_cases hE : Qr.rightE q = 0
        · exact r21_Parse_7 s w hl hv ho q hx hE
        · exact r21_Parse_6 s w hl hv ho q hx _ rfl hE
      · exact r21_Parse_5 s w hl hv ho q _ hx (by simp)
end Go.Proofs.YtkahplbjbidemaaGreatDoor
