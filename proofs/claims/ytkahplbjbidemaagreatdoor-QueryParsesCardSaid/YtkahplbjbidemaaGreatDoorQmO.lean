/- The reference divides a text into tokens: what the call returns. -/
import Derived.Test.YtkahplbjbidemaaGreatDoorQmN
namespace Go.Proofs.YtkahplbjbidemaaGreatDoor
open Go.RowKit
set_option maxRecDepth 100000

namespace Qr
/-- What the reference's tokens answers. -/
def TokRes (l : List Tok) (w : World) (e : Ending) (w' : World) : Prop :=
  (l.any (fun t => t.k == 34) = true ∧ e = .returned (.tuple #[.slice none 0 0, .bool false]) ∧ Below w.heap.size w w') ∨
  (l.any (fun t => t.k == 34) = false ∧ (∃ v, e = .returned (.tuple #[v, .bool true]) ∧ w'.ownsRow w.heap.size 55 3 v (l.length + 1) (l.flatMap encR ++ [.int .i64 0, .string ⟨#[]⟩, .bool false])) ∧ Below w.heap.size w w')
end Qr
set_option maxHeartbeats 3200000 in
theorem r21_tokens_w (s : ByteArray) (w : World) (hs : s.size ≤ 1000) :
    Calls Tryz.prog 31 #[.string s] w (Qr.TokRes (Qr.tokens s.data.toList) w) := by
  obtain ⟨i0, hi0, hz0, hz1, hz2⟩ := info_parts info_rtok
  have HI := Lib.hid hi0; clear hi0
  go_enter Tryz.func31, Tryz.ntmps31
  go_wp2
  go_loopw [4, 5, 6] (fun v i gv wr => ∃ (k : Nat) (out : List Qr.Tok) (gl : Bool), k ≤ s.size ∧ i = .int .i64 k ∧ gv = .bool gl ∧ Hid (out ++ Qr.tokF gl (s.data.toList.drop k) = Qr.tokens s.data.toList) ∧ Hid (∀ t ∈ out, t.k ≠ 34) ∧ out.length ≤ k ∧ wr.ownsRow w.heap.size 55 3 v out.length (out.flatMap Qr.encR) ∧ Below w.heap.size w wr) (fun _ i _ _ => s.size - (intOf i).toNat)
  case atStart => exact ⟨0, [], false, Nat.zero_le _, rfl, rfl, Lib.hid (by rw [List.drop_zero]; rfl), Lib.hid (fun t ht => by cases ht), Nat.zero_le _, World.ownsRow_lit (base := w.heap.size) (e := 55) (size := 3) w #[] 0 (by omega) (by unfold maxLen; omega) rfl, Tx.newb _ _⟩
  case round =>
    obtain ⟨k, out, gl, hk, rfl, rfl, hT, hcl, hol, hown, hb⟩ := hrel
    have hbs := hb.size
    by_cases hlt : k < s.size
    · have hdr := Qr.drop_at hlt
      obtain ⟨c, hc⟩ : ∃ c, s[k]'hlt = c := ⟨_, rfl⟩
      rw [hc] at hdr
      have hcc : ∀ h, s[k]'h = c := fun _ => hc
      clear hc
      have HT := Lib.hid hT.out
      rw [hdr] at HT
      have HT2 := Lib.hid HT.out; clear HT hT
      have hx1 := Qr.ext_eq s k (k + 1)
      rw [hdr, Nat.add_sub_cancel_left, List.take_succ_cons, List.take_zero] at hx1
      have HX1 := Lib.hid hx1; clear hx1
      have HDR := Lib.hid hdr; clear hdr
      by_cases c32 : c = 32
      · subst c32
        have HN : Hid (out ++ Qr.tokF false (s.data.toList.drop (k + 1)) = Qr.tokens s.data.toList) := Lib.hid (by rw [← HT2.out, Qr.tokF_blank])
        go_wp2
        go_roundw
        case rel => exact ⟨k + 1, out, false, hlt, by go_num, rfl, HN, hcl, by omega, hown, hb⟩
        case measure => simp [intOf]; omega
      · have n32 : ((c.toNat : Int) == 32) = false := beq_eq_false_iff_ne.2 (Qr.kn (n := 32) (by decide) c32)
        by_cases c34 : c = 34
        · subst c34
          clear c32 n32
          generalize wr = wo at *
          go_wp2
          obtain ⟨W6, hW6⟩ : ∃ W6, W6 = wo.alloc (.cells #[.int .i64 3, .string (s.extract k (k + 1)), .bool gl] 55) := ⟨_, rfl⟩
          have k6 : W6.heap[wo.heap.size]? = some (.cells #[.int .i64 3, .string (s.extract k (k + 1)), .bool gl] 55 (0, 0)) := by rw [hW6]; exact heap_alloc_new _ _
          have b6 : Below wo.heap.size wo W6 := by rw [hW6]; exact Tx.newb _ _
          have own6 := Tx.own_later b6 hown
          rw [← hW6]
          clear hW6
          have HNE : Hid (∀ b, u4.ownBlock = some b → b ≠ wo.heap.size) := Lib.hid (fun b hb => by have := (hown.lt b hb).2; omega)
          go_loopw [7] (fun nv wr => ∃ N : Nat, k + 1 ≤ N ∧ N ≤ s.size ∧ nv = .int .i64 N ∧ Hid ((34 : UInt8) ∉ (s.data.toList.drop (k + 1)).take (N - (k + 1))) ∧ wr = W6) (fun nv _ => s.size - (intOf nv).toNat)
          case atStart => exact ⟨k + 1, Nat.le_refl _, hlt, by go_num, Lib.hid (by rw [Nat.sub_self]; simp), rfl⟩
          case round =>
            obtain ⟨N, hN1, hN2, rfl, hno, hwr⟩ := hrel
            have hwr' : W6 = wr := hwr.symm
            clear hwr
            subst hwr'
            obtain ⟨c6, f6, l6⟩ := Tx.blk k6
            have c60 : W6.cell? ⟨wo.heap.size, 0, none⟩ = some (.int .i64 3) := c6 0
            have c61 : W6.cell? ⟨wo.heap.size, 1, none⟩ = some (.string (s.extract k (k + 1))) := c6 1
            have c62 : W6.cell? ⟨wo.heap.size, 2, none⟩ = some (.bool gl) := c6 2
            clear c6
            have hw := IntWalk.i64_in ((k : Int) + 1) ⟨by omega, by omega⟩
            have hw2 := IntWalk.i64_in ((N : Int) + 1) ⟨by omega, by omega⟩
            have hNk : (k : Int) + 1 ≤ (N : Int) := by omega
            have hNs : (N : Int) ≤ (s.size : Int) := by omega
            have hcut : (N < s.size → (s.data.toList.drop (k + 1)).getD (N - (k + 1)) 0 = 34) → Sp.cut 34 (s.data.toList.drop (k + 1)) = if N - (k + 1) = (s.data.toList.drop (k + 1)).length then none else some ((s.data.toList.drop (k + 1)).take (N - (k + 1)), (s.data.toList.drop (k + 1)).drop (N - (k + 1) + 1)) := fun he => Qr.cut_at (by rw [List.length_drop, ← Lib.size_eq]; omega) hno.out (fun h => he (by rw [List.length_drop, ← Lib.size_eq] at h; omega))
            have HCUT := Lib.hid hcut; clear hcut
            by_cases hlt2 : N < s.size
            · have hgd : (s.data.toList.drop (k + 1)).getD (N - (k + 1)) 0 = s[N]'hlt2 := by
                have h1 := Qr.drop_at hlt2
                have h2 : (s.data.toList.drop (k + 1)).drop (N - (k + 1)) = s[N]'hlt2 :: s.data.toList.drop (N + 1) := by rw [List.drop_drop, show k + 1 + (N - (k + 1)) = N by omega]; exact h1
                rw [List.getD_eq_getElem?_getD, ← List.head?_drop, h2]
                rfl
              have hsn : s[N]'hlt2 ≠ 34 → (34 : UInt8) ∉ (s.data.toList.drop (k + 1)).take (N + 1 - (k + 1)) := fun hne hm => by
                have hl9 : N - (k + 1) < (s.data.toList.drop (k + 1)).length := by rw [List.length_drop, ← Lib.size_eq]; omega
                rw [show N + 1 - (k + 1) = N - (k + 1) + 1 by omega, List.take_succ_eq_append_getElem hl9] at hm
                rcases List.mem_append.1 hm with hm | hm
                · exact hno.out hm
                · rw [List.mem_singleton] at hm
                  rw [List.getD_eq_getElem?_getD, List.getElem?_eq_getElem hl9] at hgd
                  exact hne (hgd.symm.trans hm.symm)
              obtain ⟨d, hd⟩ : ∃ d, s[N]'hlt2 = d := ⟨_, rfl⟩
              rw [hd] at hgd hsn
              have hdd : ∀ h, s[N]'h = d := fun _ => hd
              clear hd
              by_cases d34 : d = 34
              · subst d34
                have hct := HCUT.out (fun _ => hgd)
                rw [if_neg (by rw [List.length_drop, ← Lib.size_eq]; omega)] at hct
                have HN : Hid ((out ++ [⟨113, (s.data.toList.drop (k + 1)).take (N - (k + 1)), gl⟩]) ++ Qr.tokF true (s.data.toList.drop (N + 1)) = Qr.tokens s.data.toList) := Lib.hid (by rw [← HT2.out, Qr.tokF_quote gl _ hct, List.append_assoc, List.drop_drop, show k + 1 + (N - (k + 1) + 1) = N + 1 by omega]; rfl)
                have HCL : Hid (∀ t ∈ out ++ [(⟨113, (s.data.toList.drop (k + 1)).take (N - (k + 1)), gl⟩ : Qr.Tok)], t.k ≠ 34) := Lib.hid (fun t ht => by
                  rcases List.mem_append.1 ht with h | h
                  · exact hcl.out t h
                  · rw [List.mem_singleton.1 h]; show (113 : UInt8) ≠ 34; decide)
                have HXE := Lib.hid (Qr.ext_eq s (k + 1) N)
                have hNe : ((N : Int) == (s.size : Int)) = false := beq_eq_false_iff_ne.2 (by omega)
                clear hgd hsn hct
                have own8 : (((W6.setCell ⟨wo.heap.size, 0, none⟩ (.int .i64 2)).setCell ⟨wo.heap.size, 1, none⟩ (.string (s.extract (k + 1) N))).setCell ⟨wo.heap.size, 2, none⟩ (.bool gl)).ownsRow w.heap.size 55 3 u4 out.length (out.flatMap Qr.encR) := Tx.own_set (Tx.own_set (Tx.own_set own6 HNE.out _) HNE.out _) HNE.out _
                have b8 : Below w.heap.size w (((W6.setCell ⟨wo.heap.size, 0, none⟩ (.int .i64 2)).setCell ⟨wo.heap.size, 1, none⟩ (.string (s.extract (k + 1) N))).setCell ⟨wo.heap.size, 2, none⟩ (.bool gl)) := ((hb.trans (b6.mono hb.size)).setCell (show w.heap.size ≤ wo.heap.size by omega) _).setCell (show w.heap.size ≤ wo.heap.size by omega) _ |>.setCell (show w.heap.size ≤ wo.heap.size by omega) _
                have s8 := b8.size
                have HO8 := Lib.hid own8; have HB8 := Lib.hid b8; clear own8 b8
                go_wp2_with (first | (at_builtin; go_must (refine wpList_append_sl rfl _ _ 48 rfl w.heap.size 55 i0 _ 3 32 Tryz.underlying48 HI.out hz0 hz1 hz2 rfl (by decide) _ out.length _ rfl (HO8.out.alloc _) (some ⟨_, 0, none⟩) 1 1 [.int .i64 2, .string (s.extract (k + 1) N), .bool gl] rfl rfl (fun h9 => by cases h9) (fun ad had => by cases had; exact Br.cells_new_at _ _ (by first | rfl | simp) _ _) (by simp [Value.oneCell']) (by unfold maxLen; omega) (by omega) (by simp; omega) ?_); intro v' w7 hown7 hg7 hnil7))
                go_roundw
                case rel => exact ⟨N + 1, _, true, by omega, by go_num, rfl, HN, HCL, by rw [List.length_append]; simp; omega, by rw [List.length_append, List.flatMap_append]; have h9 := hown7; rw [← HXE.out] at h9; exact h9, (HB8.out.alloc (by omega) _).grown hg7 (by simp; omega) (fun j hj => (hown.lt j hj).1)⟩
                case measure => simp [intOf]; omega
              · have n34 : ((d.toNat : Int) == 34) = false := beq_eq_false_iff_ne.2 (Qr.kn (n := 34) (by decide) d34)
                have n34' : ((d.toNat : Int) != 34) = true := by rw [bne, n34]; rfl
                have HSN := Lib.hid (hsn d34)
                clear hgd hsn
                go_wp2
                go_roundw
                case rel => exact ⟨N + 1, by omega, by omega, by go_num, HSN, by first | trivial | rfl⟩
                case measure => simp [intOf]; omega
            · have hNe : N = s.size := by omega
              have hct := HCUT.out (fun h => absurd h hlt2)
              rw [if_pos (by rw [List.length_drop, ← Lib.size_eq]; omega)] at hct
              have HANY : Hid ((Qr.tokens s.data.toList).any (fun t => t.k == 34) = true) := Lib.hid (by rw [← HT2.out, Qr.tokF_open gl _ hct]; exact Qr.any34 rfl)
              have hNe2 : ((N : Int) == (s.size : Int)) = true := by rw [hNe]; simp
              clear hct
              go_wp2
              exact bodyPost_ret (v := .tuple #[.slice none 0 0, .bool false]) (by simp [results, Tryz.results31, go_sem]) rfl (.inl ⟨HANY.out, rfl, hb.trans (b6.mono hb.size)⟩)
        · have n34 : ((c.toNat : Int) == 34) = false := beq_eq_false_iff_ne.2 (Qr.kn (n := 34) (by decide) c34)
          obtain ⟨S, hS⟩ : ∃ S, Qr.sg c = S := ⟨_, rfl⟩
          cases S with
          | true =>
            have HN : Hid ((out ++ [⟨c, [], gl⟩]) ++ Qr.tokF true (s.data.toList.drop (k + 1)) = Qr.tokens s.data.toList) := Lib.hid (by rw [← HT2.out, Qr.tokF_sign gl _ (Qr.sg_iff.1 hS), List.append_assoc]; rfl)
            have HE := Lib.hid (Qr.encR_sign c gl hS)
            have HSG := Lib.hid hS
            have HCL : Hid (∀ t ∈ out ++ [⟨c, [], gl⟩], t.k ≠ 34) := Lib.hid (fun t ht => by
              rcases List.mem_append.1 ht with h | h
              · exact hcl.out t h
              · rw [List.mem_singleton.1 h]; exact c34)
            clear c32 hS c34
            go_wp2_with (first
              | (at_builtin; go_must (refine wpList_append_sl rfl _ _ 48 rfl w.heap.size 55 i0 _ 3 32 Tryz.underlying48 HI.out hz0 hz1 hz2 rfl (by decide) _ out.length _ rfl ((hown.alloc _).alloc _) (some ⟨_, 0, none⟩) 1 1 [.int .i64 3, .string (s.extract k (k + 1)), .bool gl] rfl rfl (fun h9 => by cases h9) (fun ad had => by cases had; exact Br.cells_new_at _ _ (by first | rfl | simp) _ _) (by simp [Value.oneCell']) (by unfold maxLen; omega) (by omega) (by simp; omega) ?_); intro v' w7 hown7 hg7 hnil7)
              | (go_at_call 53; ((with_reducible refine (r21_sign_c c _).mono ?_); rintro e w5 ⟨rfl, hw5⟩; have hw5' := hw5.symm; clear hw5; subst hw5'; rw [HSG.out])))
            go_roundw
            case rel => exact ⟨k + 1, _, true, hlt, by go_num, rfl, HN, HCL, by rw [List.length_append]; simp; omega, by rw [List.length_append, List.flatMap_append]; have h9 := hown7; rw [← HX1.out] at h9; rw [show [(⟨c, [], gl⟩ : Qr.Tok)].flatMap Qr.encR = Qr.encR ⟨c, [], gl⟩ from List.append_nil _, HE.out]; exact h9, ((hb.trans ((Tx.newb _ _).mono hb.size)).trans ((Tx.newb _ _).mono (by simp; omega))).grown hg7 (by simp; omega) (fun j hj => (hown.lt j hj).1)⟩
            case measure => simp [intOf]; omega
          | false =>
            have HSG := Lib.hid hS
            have hns : Qr.sgn c = false := by
              rw [Qr.sgn_sg, hS, Bool.or_false, Bool.or_eq_false_iff, beq_eq_false_iff_ne, beq_eq_false_iff_ne]
              exact ⟨c32, c34⟩
            have HNS := Lib.hid hns; clear hns hS
            generalize wr = wo at *
            go_wp2_with (go_at_call 53; ((with_reducible refine (r21_sign_c c _).mono ?_); rintro e w5 ⟨rfl, hw5⟩; have hw5' := hw5.symm; clear hw5; subst hw5'; rw [HSG.out]))
            obtain ⟨W6, hW6⟩ : ∃ W6, W6 = wo.alloc (.cells #[.int .i64 3, .string (s.extract k (k + 1)), .bool gl] 55) := ⟨_, rfl⟩
            have k6 : W6.heap[wo.heap.size]? = some (.cells #[.int .i64 3, .string (s.extract k (k + 1)), .bool gl] 55 (0, 0)) := by rw [hW6]; exact heap_alloc_new _ _
            have b6 : Below wo.heap.size wo W6 := by rw [hW6]; exact Tx.newb _ _
            have own6 := Tx.own_later b6 hown
            rw [← hW6]
            clear hW6
            have HNE : Hid (∀ b, u4.ownBlock = some b → b ≠ wo.heap.size) := Lib.hid (fun b hb => by have := (hown.lt b hb).2; omega)
            go_loopw [7] (fun nv wr => ∃ N : Nat, k + 1 ≤ N ∧ N ≤ s.size ∧ nv = .int .i64 N ∧ Hid (∀ j, 1 ≤ j → j < N - k → ∀ h : k + j < s.size, Qr.sgn (s[k + j]'h) = false) ∧ wr = W6) (fun nv _ => s.size - (intOf nv).toNat)
            case atStart => exact ⟨k + 1, Nat.le_refl _, hlt, by go_num, Lib.hid (fun j h1 h2 => by omega), rfl⟩
            case round =>
              obtain ⟨N, hN1, hN2, rfl, hin, hwr⟩ := hrel
              have hwr' : W6 = wr := hwr.symm
              clear hwr
              subst hwr'
              obtain ⟨c6, f6, l6⟩ := Tx.blk k6
              have c60 : W6.cell? ⟨wo.heap.size, 0, none⟩ = some (.int .i64 3) := c6 0
              have c61 : W6.cell? ⟨wo.heap.size, 1, none⟩ = some (.string (s.extract k (k + 1))) := c6 1
              have c62 : W6.cell? ⟨wo.heap.size, 2, none⟩ = some (.bool gl) := c6 2
              clear c6
              have hw := IntWalk.i64_in (N : Int) ⟨by omega, by omega⟩
              have hNk : (k : Int) ≤ (N : Int) := by omega
              have hNs : (N : Int) ≤ (s.size : Int) := by omega
              have hout : (∀ h : k + (N - k) < s.size, Qr.sgn (s[k + (N - k)]'h) = true) → ((out ++ [⟨114, c :: Qr.run (s.data.toList.drop (k + 1)), gl⟩]) ++ Qr.tokF true (s.data.toList.drop N) = Qr.tokens s.data.toList) ∧ (⟨(c :: Qr.run (s.data.toList.drop (k + 1))).toArray⟩ : ByteArray) = s.extract k N := fun HO => by
                have hre := Qr.run_at (s := s) (k := k) (n := N - k) (by omega) (by omega) hin.out HO
                have hrl : (Qr.run (s.data.toList.drop (k + 1))).length = N - k - 1 := by
                  rw [hre, List.length_take, List.length_drop, ← Lib.size_eq]
                  omega
                refine ⟨by rw [← HT2.out, Qr.tokF_run gl _ HNS.out, hrl, List.drop_drop, show k + 1 + (N - k - 1) = N by omega, List.append_assoc]; rfl, ?_⟩
                have hxe := Qr.ext_eq s k N
                rw [HDR.out, show N - k = (N - k - 1) + 1 by omega, List.take_succ_cons, ← hre] at hxe
                exact hxe
              have HOUT := Lib.hid hout; clear hout
              have HCL : Hid (∀ t ∈ out ++ [(⟨114, c :: Qr.run (s.data.toList.drop (k + 1)), gl⟩ : Qr.Tok)], t.k ≠ 34) := Lib.hid (fun t ht => by
                rcases List.mem_append.1 ht with h | h
                · exact hcl.out t h
                · rw [List.mem_singleton.1 h]; show (114 : UInt8) ≠ 34; decide)
              by_cases hlt2 : N < s.size
              · obtain ⟨d, hd⟩ : ∃ d, s[N]'hlt2 = d := ⟨_, rfl⟩
                have hkd : ∀ h : k + (N - k) < s.size, s[k + (N - k)]'h = d := fun h => by rw [← hd]; congr 1; omega
                have HKD := Lib.hid hkd; clear hkd
                have hdd : ∀ h, s[N]'h = d := fun _ => hd
                clear hd
                by_cases d32 : d = 32
                · subst d32
                  have HOO := HOUT.out (fun h => by rw [HKD.out]; decide)
                  have HN := Lib.hid HOO.1; have HXE := Lib.hid HOO.2
                  clear HOO
                  have own8 : (((W6.setCell ⟨wo.heap.size, 0, none⟩ (.int .i64 1)).setCell ⟨wo.heap.size, 1, none⟩ (.string (s.extract k N))).setCell ⟨wo.heap.size, 2, none⟩ (.bool gl)).ownsRow w.heap.size 55 3 u4 out.length (out.flatMap Qr.encR) := Tx.own_set (Tx.own_set (Tx.own_set own6 HNE.out _) HNE.out _) HNE.out _
                  have b8 : Below w.heap.size w (((W6.setCell ⟨wo.heap.size, 0, none⟩ (.int .i64 1)).setCell ⟨wo.heap.size, 1, none⟩ (.string (s.extract k N))).setCell ⟨wo.heap.size, 2, none⟩ (.bool gl)) := ((hb.trans (b6.mono hb.size)).setCell (show w.heap.size ≤ wo.heap.size by omega) _).setCell (show w.heap.size ≤ wo.heap.size by omega) _ |>.setCell (show w.heap.size ≤ wo.heap.size by omega) _
                  have s8 := b8.size
                  have HO8 := Lib.hid own8; have HB8 := Lib.hid b8; clear own8 b8
                  go_wp2_with (first | (at_builtin; go_must (refine wpList_append_sl rfl _ _ 48 rfl w.heap.size 55 i0 _ 3 32 Tryz.underlying48 HI.out hz0 hz1 hz2 rfl (by decide) _ out.length _ rfl (HO8.out.alloc _) (some ⟨_, 0, none⟩) 1 1 [.int .i64 1, .string (s.extract k N), .bool gl] rfl rfl (fun h9 => by cases h9) (fun ad had => by cases had; exact Br.cells_new_at _ _ (by first | rfl | simp) _ _) (by simp [Value.oneCell']) (by unfold maxLen; omega) (by omega) (by simp; omega) ?_); intro v' w7 hown7 hg7 hnil7))
                  go_roundw
                  case rel => exact ⟨N, _, true, hN2, by go_num, rfl, HN, HCL, by rw [List.length_append]; simp; omega, by rw [List.length_append, List.flatMap_append]; have h9 := hown7; rw [← HXE.out] at h9; exact h9, (HB8.out.alloc (by omega) _).grown hg7 (by simp; omega) (fun j hj => (hown.lt j hj).1)⟩
                  case measure => simp [intOf]; omega
                · have n32' : ((d.toNat : Int) == 32) = false := beq_eq_false_iff_ne.2 (Qr.kn (n := 32) (by decide) d32)
                  have m32 : ((d.toNat : Int) != 32) = true := by rw [bne, n32']; rfl
                  by_cases d34 : d = 34
                  · subst d34
                    have HOO := HOUT.out (fun h => by rw [HKD.out]; decide)
                    have HN := Lib.hid HOO.1; have HXE := Lib.hid HOO.2
                    clear HOO
                    have own8 : (((W6.setCell ⟨wo.heap.size, 0, none⟩ (.int .i64 1)).setCell ⟨wo.heap.size, 1, none⟩ (.string (s.extract k N))).setCell ⟨wo.heap.size, 2, none⟩ (.bool gl)).ownsRow w.heap.size 55 3 u4 out.length (out.flatMap Qr.encR) := Tx.own_set (Tx.own_set (Tx.own_set own6 HNE.out _) HNE.out _) HNE.out _
                    have b8 : Below w.heap.size w (((W6.setCell ⟨wo.heap.size, 0, none⟩ (.int .i64 1)).setCell ⟨wo.heap.size, 1, none⟩ (.string (s.extract k N))).setCell ⟨wo.heap.size, 2, none⟩ (.bool gl)) := ((hb.trans (b6.mono hb.size)).setCell (show w.heap.size ≤ wo.heap.size by omega) _).setCell (show w.heap.size ≤ wo.heap.size by omega) _ |>.setCell (show w.heap.size ≤ wo.heap.size by omega) _
                    have s8 := b8.size
                    have HO8 := Lib.hid own8; have HB8 := Lib.hid b8; clear own8 b8
                    go_wp2_with (first | (at_builtin; go_must (refine wpList_append_sl rfl _ _ 48 rfl w.heap.size 55 i0 _ 3 32 Tryz.underlying48 HI.out hz0 hz1 hz2 rfl (by decide) _ out.length _ rfl (HO8.out.alloc _) (some ⟨_, 0, none⟩) 1 1 [.int .i64 1, .string (s.extract k N), .bool gl] rfl rfl (fun h9 => by cases h9) (fun ad had => by cases had; exact Br.cells_new_at _ _ (by first | rfl | simp) _ _) (by simp [Value.oneCell']) (by unfold maxLen; omega) (by omega) (by simp; omega) ?_); intro v' w7 hown7 hg7 hnil7))
                    go_roundw
                    case rel => exact ⟨N, _, true, hN2, by go_num, rfl, HN, HCL, by rw [List.length_append]; simp; omega, by rw [List.length_append, List.flatMap_append]; have h9 := hown7; rw [← HXE.out] at h9; exact h9, (HB8.out.alloc (by omega) _).grown hg7 (by simp; omega) (fun j hj => (hown.lt j hj).1)⟩
                    case measure => simp [intOf]; omega
                  · have n34' : ((d.toNat : Int) == 34) = false := beq_eq_false_iff_ne.2 (Qr.kn (n := 34) (by decide) d34)
                    have m34 : ((d.toNat : Int) != 34) = true := by rw [bne, n34']; rfl
                    obtain ⟨D, hD⟩ : ∃ D, Qr.sg d = D := ⟨_, rfl⟩
                    have HSD := Lib.hid hD
                    cases D with
                    | true =>
                      have HOO := HOUT.out (fun h => by rw [HKD.out, Qr.sgn_sg, hD, Bool.or_true])
                      have HN := Lib.hid HOO.1; have HXE := Lib.hid HOO.2
                      clear HOO hD
                      have own8 : (((W6.setCell ⟨wo.heap.size, 0, none⟩ (.int .i64 1)).setCell ⟨wo.heap.size, 1, none⟩ (.string (s.extract k N))).setCell ⟨wo.heap.size, 2, none⟩ (.bool gl)).ownsRow w.heap.size 55 3 u4 out.length (out.flatMap Qr.encR) := Tx.own_set (Tx.own_set (Tx.own_set own6 HNE.out _) HNE.out _) HNE.out _
                      have b8 : Below w.heap.size w (((W6.setCell ⟨wo.heap.size, 0, none⟩ (.int .i64 1)).setCell ⟨wo.heap.size, 1, none⟩ (.string (s.extract k N))).setCell ⟨wo.heap.size, 2, none⟩ (.bool gl)) := ((hb.trans (b6.mono hb.size)).setCell (show w.heap.size ≤ wo.heap.size by omega) _).setCell (show w.heap.size ≤ wo.heap.size by omega) _ |>.setCell (show w.heap.size ≤ wo.heap.size by omega) _
                      have s8 := b8.size
                      have HO8 := Lib.hid own8; have HB8 := Lib.hid b8; clear own8 b8
                      go_wp2_with (first | (at_builtin; go_must (refine wpList_append_sl rfl _ _ 48 rfl w.heap.size 55 i0 _ 3 32 Tryz.underlying48 HI.out hz0 hz1 hz2 rfl (by decide) _ out.length _ rfl (HO8.out.alloc _) (some ⟨_, 0, none⟩) 1 1 [.int .i64 1, .string (s.extract k N), .bool gl] rfl rfl (fun h9 => by cases h9) (fun ad had => by cases had; exact Br.cells_new_at _ _ (by first | rfl | simp) _ _) (by simp [Value.oneCell']) (by unfold maxLen; omega) (by omega) (by simp; omega) ?_); intro v' w7 hown7 hg7 hnil7) | (go_at_call 53; ((with_reducible refine (r21_sign_c d _).mono ?_); rintro e w5 ⟨rfl, hw5⟩; have hw5' := hw5.symm; clear hw5; subst hw5'; rw [HSD.out])))
                      go_roundw
                      case rel => exact ⟨N, _, true, hN2, by go_num, rfl, HN, HCL, by rw [List.length_append]; simp; omega, by rw [List.length_append, List.flatMap_append]; have h9 := hown7; rw [← HXE.out] at h9; exact h9, (HB8.out.alloc (by omega) _).grown hg7 (by simp; omega) (fun j hj => (hown.lt j hj).1)⟩
                      case measure => simp [intOf]; omega
                    | false =>
                      have hsd : Qr.sgn d = false := by
                        rw [Qr.sgn_sg, hD, Bool.or_false, Bool.or_eq_false_iff, beq_eq_false_iff_ne, beq_eq_false_iff_ne]
                        exact ⟨d32, d34⟩
                      have HI2 : Hid (∀ j, 1 ≤ j → j < N + 1 - k → ∀ h : k + j < s.size, Qr.sgn (s[k + j]'h) = false) := Lib.hid (fun j h1 h2 h => by
                        by_cases hj : j < N - k
                        · exact hin.out j h1 hj h
                        · obtain rfl : j = N - k := by omega
                          rw [HKD.out]
                          exact hsd)
                      clear hsd hD
                      go_wp2_with (go_at_call 53; ((with_reducible refine (r21_sign_c d _).mono ?_); rintro e w5 ⟨rfl, hw5⟩; have hw5' := hw5.symm; clear hw5; subst hw5'; rw [HSD.out]))
                      go_roundw
                      case rel => exact ⟨N + 1, by omega, by omega, by go_num, HI2, by first | trivial | rfl⟩
                      case measure => simp [intOf]; omega
              · have HOO := HOUT.out (fun h => by omega)
                have HN := Lib.hid HOO.1; have HXE := Lib.hid HOO.2
                clear HOO
                have own8 : (((W6.setCell ⟨wo.heap.size, 0, none⟩ (.int .i64 1)).setCell ⟨wo.heap.size, 1, none⟩ (.string (s.extract k N))).setCell ⟨wo.heap.size, 2, none⟩ (.bool gl)).ownsRow w.heap.size 55 3 u4 out.length (out.flatMap Qr.encR) := Tx.own_set (Tx.own_set (Tx.own_set own6 HNE.out _) HNE.out _) HNE.out _
                have b8 : Below w.heap.size w (((W6.setCell ⟨wo.heap.size, 0, none⟩ (.int .i64 1)).setCell ⟨wo.heap.size, 1, none⟩ (.string (s.extract k N))).setCell ⟨wo.heap.size, 2, none⟩ (.bool gl)) := ((hb.trans (b6.mono hb.size)).setCell (show w.heap.size ≤ wo.heap.size by omega) _).setCell (show w.heap.size ≤ wo.heap.size by omega) _ |>.setCell (show w.heap.size ≤ wo.heap.size by omega) _
                have s8 := b8.size
                have HO8 := Lib.hid own8; have HB8 := Lib.hid b8; clear own8 b8
                go_wp2_with (first | (at_builtin; go_must (refine wpList_append_sl rfl _ _ 48 rfl w.heap.size 55 i0 _ 3 32 Tryz.underlying48 HI.out hz0 hz1 hz2 rfl (by decide) _ out.length _ rfl (HO8.out.alloc _) (some ⟨_, 0, none⟩) 1 1 [.int .i64 1, .string (s.extract k N), .bool gl] rfl rfl (fun h9 => by cases h9) (fun ad had => by cases had; exact Br.cells_new_at _ _ (by first | rfl | simp) _ _) (by simp [Value.oneCell']) (by unfold maxLen; omega) (by omega) (by simp; omega) ?_); intro v' w7 hown7 hg7 hnil7))
                go_roundw
                case rel => exact ⟨N, _, true, hN2, by go_num, rfl, HN, HCL, by rw [List.length_append]; simp; omega, by rw [List.length_append, List.flatMap_append]; have h9 := hown7; rw [← HXE.out] at h9; exact h9, (HB8.out.alloc (by omega) _).grown hg7 (by simp; omega) (fun j hj => (hown.lt j hj).1)⟩
                case measure => simp [intOf]; omega
    · go_wp2_with (at_builtin; go_must (refine wpList_append_sl rfl _ _ 48 rfl w.heap.size 55 i0 _ 3 32 Tryz.underlying48 HI.out hz0 hz1 hz2 rfl (by decide) _ out.length _ rfl (hown.alloc _) (some ⟨_, 0, none⟩) 1 1 [.int .i64 0, .string ⟨#[]⟩, .bool false] rfl rfl (fun h9 => by cases h9) (fun ad had => by cases had; exact Br.cells_new_at _ _ (by first | rfl | simp) _ _) (by simp [Value.oneCell']) (by unfold maxLen; omega) (by omega) (by simp; omega) ?_); intro v' w7 hown7 hg7 hnil7)
      have hd : s.data.toList.drop k = [] := List.drop_eq_nil_of_le (by rw [← Lib.size_eq]; omega)
      have h8 := hT.out
      rw [hd, Qr.tokF_nil, List.append_nil] at h8
      exact bodyPost_ret (v := .tuple #[v', .bool true]) (by simp [results, Tryz.results31, go_sem]) rfl (.inr (by rw [← h8]; exact ⟨Qr.any34_not hcl.out, ⟨_, rfl, hown7⟩, (hb.trans ((Tx.newb _ _).mono hb.size)).grown hg7 (by simp; omega) (fun j hj => (hown.lt j hj).1)⟩))
end Go.Proofs.YtkahplbjbidemaaGreatDoor
