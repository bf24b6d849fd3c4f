/- Layer 20's laws: the chapter's examples: what the call of alive returns. -/
import Derived.Test.YtcjalpegffldaaaGreatDoorJr
namespace Go.Proofs.YtcjalpegffldaaaGreatDoor
open Go.RowKit
set_option maxRecDepth 100000

namespace Ix
theorem IA.lit {w : World} {xs : List Int} {cs : Array Value} {t : TypeId} {X : Nat} (hX : X = w.heap.size) (hc : cs = (xs.map (Value.int .i64)).toArray) (hl : xs.length ≤ 1000) : IA (w.alloc (.cells cs t)) (some ⟨X, 0, none⟩) xs.length xs := by
  subst hX hc
  exact Br.FA.lit (enc := fun x : Int => [Value.int .i64 x]) (fun _ => rfl) (by rw [flat_int]; exact heap_alloc_new w _) hl
theorem any_take {T : List PT} {k : Nat} {t : PT} (h : T[k]? = some t) : ((T.take (k + 1)).any fun t => likeB t.1) = ((T.take k).any (fun t => likeB t.1) || likeB t.1) := by
  rw [take_snoc h, List.any_append]
  simp
theorem likeB_1 {p : Post} (h : ¬ p.fld = 1) : likeB p = false := by unfold likeB; rw [decide_eq_false h, Bool.false_and]
theorem likeB_2 {p : Post} (h : ¬ p.word = [100, 111, 103, 115]) : likeB p = false := by unfold likeB; rw [decide_eq_false h, Bool.false_and, Bool.and_false]
theorem likeB_3 {p : Post} (h : ¬ p.id = 7) : likeB p = false := by unfold likeB; rw [decide_eq_false h, Bool.false_and, Bool.and_false, Bool.and_false]
theorem likeB_4 {p : Post} (h1 : p.fld = 1) (h2 : p.word = [100, 111, 103, 115]) (h3 : p.id = 7) : likeB p = decide (p.at_ = [0, 2]) := by unfold likeB; rw [decide_eq_true h1, decide_eq_true h2, decide_eq_true h3]; rfl
theorem likeT (T : List PT) : (T.any fun t => likeB t.1) = (T.map (·.1)).any likeB := by rw [List.any_map]; rfl
end Ix

/-- The list of the one record, as alive lays it. -/
theorem Ix.one_rec (w : World) (ra : Option Addr) (X : Nat) (hX : X = w.heap.size) (h : Rc.FldA w ra 2 Ix.dogsR.fields) : Rc.RdA (w.alloc (.cells #[.int .i64 7, .int .i64 3, .int .i64 1, .string ⟨#[101, 110, 103]⟩, .slice ra 2 2] 24)) (some ⟨X, 0, none⟩) 1 [Ix.dogsR] := by
  subst hX
  refine Rc.RdA.of_fa (T := [(Ix.dogsR, ra, 2)]) (Br.FA.lit (enc := Rc.encR) (xs := [(Ix.dogsR, ra, 2)]) Rc.encR_len (by exact heap_alloc_new w _) (by simp)) (fun t ht => ?_)
  rcases List.mem_cons.1 ht with rfl | ht
  · exact h.below (Tx.newb _ _)
  · cases ht


theorem Ix.found_step {T : List Ix.PT} {k : Nat} {t : Ix.PT} (h : T[k]? = some t) {q r : Bool} (hq : ((T.take k).any fun t => Ix.likeB t.1) = q) (hr : Ix.likeB t.1 = r) : ((T.take (k + 1)).any fun t => Ix.likeB t.1) = (q || r) := by rw [Ix.any_take h, hq, hr]

set_option maxHeartbeats 6400000 in
theorem lx_alive_c (w : World) (hG : G w) : Calls Tryz.prog 9 #[] w fun e w' => e = .returned (.bool true) ∧ Below w.heap.size w w' := by
  have HG := Lib.hid hG
  have HT1 := Lib.hid Ix.dogs_t1
  have HBD := Lib.hid Ix.dogs_build
  clear hG
  go_enter Tryz.func9, Tryz.ntmps9
  go_wp2_with (first
    | (go_at_call 33; ((with_reducible refine (lx_dogs_c w).mono ?_); rintro e w1 ⟨ra, rfl, hF1, hb1⟩; have HF1 := Lib.hid hF1; have HB1 := Lib.hid hb1; obtain ⟨W1, hW1⟩ : ∃ W1, w1.alloc (.cells #[.int .i64 7, .int .i64 3, .int .i64 1, .string ⟨#[101, 110, 103]⟩, .slice ra 2 2] 24) = W1 := ⟨_, rfl⟩; have HN1 : Hid (Below w1.heap.size w1 W1) := Lib.hid (by rw [← hW1]; exact Tx.newb _ _); have K1 : W1.heap[w1.heap.size]? = some (.cells #[.int .i64 7, .int .i64 3, .int .i64 1, .string ⟨#[101, 110, 103]⟩, .slice ra 2 2] 24 (0, 0)) := (by rw [← hW1]; exact heap_alloc_new w1 _); have KK1 := Lib.hid K1; obtain ⟨kc1, kf1, kl1⟩ := Tx.blk K1; have HBW1 := Lib.hid (Tx.step HB1.out HN1.out); clear hF1 hb1 K1))
    | (go_at_call 12; (go_must (refine (ix_Terms_c Ix.dogsR.fields ra 2 7 3 1 ⟨#[101, 110, 103]⟩ 1 W1 (HG.out.below HBW1.out) (HF1.out.below HN1.out) Ix.dogs_mod Ix.dogs_gd).mono ?_); rintro e w2 ⟨v2, rfl, hown2, hb2⟩; rw [HT1.out] at hown2; obtain ⟨a2, c2, rfl, hs2⟩ := Ix.own_sla hown2; have HS2 := Lib.hid hs2; have HB2 := Lib.hid hb2; clear hown2 hs2 hb2; obtain ⟨kc2, kf2, kl2⟩ := Tx.blk (Tx.blk_later KK1.out HB2.out)))
    | (go_at_call 11; go_must (refine (Texts_c [⟨#[100, 111, 103, 115]⟩, ⟨#[97, 110, 100]⟩, ⟨#[100, 111, 103, 115]⟩] [⟨#[100, 111, 103, 115]⟩, ⟨#[97, 110, 100]⟩, ⟨#[100, 111, 103, 115]⟩] a2 (some ⟨w2.heap.size, 0, none⟩) c2 3 _ (HS2.out.below (Tx.newb _ _)) (SLA.new (xs := [⟨#[100, 111, 103, 115]⟩, ⟨#[97, 110, 100]⟩, ⟨#[100, 111, 103, 115]⟩]) (by rfl) (by rfl) (by decide))).mono ?_); rintro e w3 ⟨rfl, hb3⟩; have HB3 := Lib.hid ((Tx.newb w2 _).trans (hb3.mono (Tx.newb w2 _).size)); clear hb3; have K3 := Tx.blk_later KK1.out (Tx.step HB2.out HB3.out); obtain ⟨kc3, kf3, kl3⟩ := Tx.blk K3; have HB13 := Lib.hid (Tx.step HB2.out HB3.out); have HF3 := Lib.hid ((HF1.out.below HN1.out).below HB13.out); have HW3 := Lib.hid (Tx.step HBW1.out HB13.out))
    | (go_at_call 17; go_must (refine (ix_Build_c [Ix.dogsR] (some ⟨w3.heap.size, 0, none⟩) 1 _ ((HG.out.below HW3.out).below (Tx.newb _ _)) (Ix.one_rec w3 ra _ (by rfl) HF3.out) (by decide) (fun r hr => by rw [List.mem_singleton] at hr; rw [hr]; exact Ix.dogs_mod) (fun r hr => by rw [List.mem_singleton] at hr; rw [hr]; exact Ix.dogs_gd) (fun r hr => by rw [List.mem_singleton] at hr; rw [hr]; decide)).mono ?_); rintro e w4 ⟨a4, c4, T, rfl, hps, hmap, hlen, hb4⟩; rw [HBD.out] at hmap; have HMP := Lib.hid hmap; have HPS := Lib.hid hps; have HB4 := Lib.hid (Tx.step HW3.out ((Tx.newb w3 _).trans (hb4.mono (Tx.newb w3 _).size))); clear hps hmap hb4; obtain ⟨W4, hW4⟩ : ∃ W4, w4.alloc (.cells #[.slice a4 T.length c4] 34) = W4 := ⟨_, rfl⟩; have HN4 : Hid (Below w4.heap.size w4 W4) := Lib.hid (by rw [← hW4]; exact Tx.newb _ _); have K4 : W4.heap[w4.heap.size]? = some (.cells #[.slice a4 T.length c4] 34 (0, 0)) := (by rw [← hW4]; exact heap_alloc_new w4 _); have KK4 := Lib.hid K4; have HPS4 := Lib.hid (HPS.out.below HN4.out); clear K4))
  clear hW1
  have HW4 := Lib.hid (Tx.step HB4.out HN4.out)
  clear hW4
  have HX : Hid (∀ w', Below W4.heap.size W4 w' → Ix.PsA w' a4 c4 T ∧ w'.cell? ⟨w4.heap.size, 0, none⟩ = some (.slice a4 T.length c4)) := Lib.hid (fun w' h9 => ⟨HPS4.out.below h9, (Tx.blk (Tx.blk_later KK4.out h9)).1 0⟩)
  have hcap := HPS4.out.fa.cap
  have hmax := HPS4.out.fa.max
  have hmx : maxLen = 9223372036854775807 := rfl
  clear kc1 kf1 kl1 kc2 kf2 kl2 kc3 kf3 kl3 K3
  go_loopw [3, 4] (fun fo i wr => ∃ (k : Nat) (q : Bool), k ≤ T.length ∧ i = .int .i64 k ∧ fo = .bool q ∧ Hid (((T.take k).any fun t => Ix.likeB t.1) = q) ∧ Below W4.heap.size W4 wr) (fun _ i _ => T.length - (intOf i).toNat)
  case atStart => exact ⟨0, false, Nat.zero_le _, by go_num, rfl, Lib.hid rfl, Below.refl _ _⟩
  case round =>
    obtain ⟨k, q, hk, rfl, rfl, HQ, hb⟩ := hrel
    obtain ⟨hps, x0⟩ := HX.out _ hb
    have HPW := Lib.hid hps
    clear hps
    by_cases hlt : k < T.length
    · obtain ⟨⟨y, ya, yc⟩, hy⟩ : ∃ y, T[k]? = some y := ⟨_, List.getElem?_eq_getElem hlt⟩
      obtain ⟨b, o, rfl, hbl, g0, g1, g2, g3, hI⟩ := HPW.out.get hy
      simp only at g0 g1 g2 g3 hI
      have HIA := Lib.hid hI
      have HST := Lib.hid (fun r (hr : Ix.likeB y = r) => Ix.found_step hy HQ.out hr)
      obtain ⟨V, hV⟩ : ∃ V, wr.alloc (.cells #[.int .i64 y.fld, .string ⟨y.word.toArray⟩, .int .i64 y.id, .slice ya y.at_.length yc] 52) = V := ⟨_, rfl⟩
      have hbV : Below wr.heap.size wr V := by rw [← hV]; exact Tx.newb _ _
      have HVB := Lib.hid (Tx.step hb hbV)
      have HVW := Lib.hid hbV
      have KV : V.heap[wr.heap.size]? = some (.cells #[.int .i64 y.fld, .string ⟨y.word.toArray⟩, .int .i64 y.id, .slice ya y.at_.length yc] 52 (0, 0)) := by rw [← hV]; exact heap_alloc_new wr _
      have z0 : V.cell? ⟨wr.heap.size, 0, none⟩ = some (.int .i64 y.fld) := (Tx.blk KV).1 0
      have z1 : V.cell? ⟨wr.heap.size, 1, none⟩ = some (.string ⟨y.word.toArray⟩) := (Tx.blk KV).1 1
      have z2 : V.cell? ⟨wr.heap.size, 2, none⟩ = some (.int .i64 y.id) := (Tx.blk KV).1 2
      have z3 : V.cell? ⟨wr.heap.size, 3, none⟩ = some (.slice ya y.at_.length yc) := (Tx.blk KV).1 3
      clear hI hy hbV KV
      cases q with
      | true =>
        have HN := Lib.hid (HST.out _ rfl)
        go_wp2
        go_roundw
        case rel => exact ⟨k + 1, true, hlt, by go_num, rfl, Lib.hid (by rw [HN.out]; rfl), HVB.out⟩
        case measure => simp [intOf]; omega
      | false =>
        by_cases h1 : y.fld = 1
        · have e1 : (y.fld == 1) = true := by simpa using h1
          by_cases h2 : y.word = [100, 111, 103, 115]
          · have e2 : (y.word == [100, 111, 103, 115]) = true := by simpa using h2
            by_cases h3 : y.id = 7
            · have e3 : (y.id == 7) = true := by simpa using h3
              have CI : Hid (Calls Tryz.prog 21 #[.slice ya y.at_.length yc, .slice (some ⟨V.heap.size, 0, none⟩) 2 2] (V.alloc (.cells #[.int .i64 0, .int .i64 2] 3)) fun e w' => e = .returned (.bool (decide (y.at_ = [0, 2]))) ∧ Below (V.alloc (.cells #[.int .i64 0, .int .i64 2] 3)).heap.size (V.alloc (.cells #[.int .i64 0, .int .i64 2] 3)) w') := Lib.hid (Ints_c y.at_ [0, 2] ya (some ⟨V.heap.size, 0, none⟩) yc 2 _ ((HIA.out.below HVW.out).below (Tx.newb _ _)) (Ix.IA.lit (xs := [0, 2]) rfl rfl (by decide)))
              obtain ⟨d, hd⟩ : ∃ d, decide (y.at_ = [0, 2]) = d := ⟨_, rfl⟩
              have HN := Lib.hid (HST.out d ((Ix.likeB_4 h1 h2 h3).trans hd))
              rw [hd] at CI
              clear hd h1 h2 h3
              go_wp2_with (go_at_call 21; ((with_reducible refine CI.out.mono ?_); rintro e w8 ⟨rfl, hb8⟩))
              go_roundw
              case rel => exact ⟨k + 1, d, hlt, by go_num, rfl, Lib.hid (by rw [HN.out, Bool.false_or]), Tx.step HVB.out ((Tx.newb V _).trans (hb8.mono (Tx.newb V _).size))⟩
              case measure => simp [intOf]; omega
            · have e3 : (y.id == 7) = false := by simpa using h3
              have HN := Lib.hid (HST.out false (Ix.likeB_3 h3))
              clear h1 h2 h3
              go_wp2
              go_roundw
              case rel => exact ⟨k + 1, false, hlt, by go_num, rfl, Lib.hid (by rw [HN.out]; rfl), HVB.out⟩
              case measure => simp [intOf]; omega
          · have e2 : (y.word == [100, 111, 103, 115]) = false := by simpa using h2
            have HN := Lib.hid (HST.out false (Ix.likeB_2 h2))
            clear h1 h2
            go_wp2
            go_roundw
            case rel => exact ⟨k + 1, false, hlt, by go_num, rfl, Lib.hid (by rw [HN.out]; rfl), HVB.out⟩
            case measure => simp [intOf]; omega
        · have e1 : (y.fld == 1) = false := by simpa using h1
          have HN := Lib.hid (HST.out false (Ix.likeB_1 h1))
          clear h1
          go_wp2
          go_roundw
          case rel => exact ⟨k + 1, false, hlt, by go_num, rfl, Lib.hid (by rw [HN.out]; rfl), HVB.out⟩
          case measure => simp [intOf]; omega
    · obtain rfl : k = T.length := by omega
      have hq : q = true := by
        have h9 := HQ.out
        rw [List.take_length, Ix.likeT, HMP.out, Ix.dogs_like] at h9
        exact h9.symm
      subst hq
      have hin : ∀ t ∈ T, t.1 ∈ Ix.dogsX := fun t ht => by rw [← HMP.out]; exact List.mem_map_of_mem ht
      have hA : Ix.Asc (T.map (·.1)) := by rw [HMP.out, ← Ix.dogs_build]; exact Ix.bld_asc _ _
      have hat : ∀ t ∈ T, ∀ n ∈ t.1.at_, 0 ≤ n ∧ n ≤ 9223372036854775807 := fun t ht => Ix.dogs_at _ (hin t ht)
      have HW1 : Hid (∀ t ∈ T, t.1.word.length ≤ 1000000) := Lib.hid (fun t ht => Ix.dogs_len _ (hin t ht))
      have HW2 : Hid (∀ t ∈ T, -9223372036854775808 ≤ t.1.id ∧ t.1.id ≤ 9223372036854775807) := Lib.hid (fun t ht => Ix.dogs_id _ (hin t ht))
      have HE1 : Hid (Ix.right (T.map (·.1)) = true) := Lib.hid (by rw [HMP.out]; exact Ix.dogs_right)
      have HE2 : Hid (Cp.puts Cp.ltI (Ix.idsT (Ix.wordP 0 [116, 114, 97, 105, 110, 105, 110, 103]) T) = [7]) := Lib.hid (by rw [← Ix.word_T, HMP.out]; exact Ix.dogs_word)
      have HE3 : Hid (Cp.puts Cp.ltI (Ix.idsT (Ix.prefP 1 [100, 111]) T) = [7]) := Lib.hid (by rw [← Ix.prefix_T, HMP.out]; exact Ix.dogs_prefix)
      have HE4 : Hid (Cp.puts Cp.ltI (Ix.phrQ T 1 [[100, 111, 103, 115], [97, 110, 100]]) = [7]) := Lib.hid (by rw [Ix.phr_same hA hat _ _ (by decide), HMP.out]; exact Ix.dogs_phr1)
      have HE5 : Hid (Cp.puts Cp.ltI (Ix.phrQ T 1 [[97, 110, 100], [97, 110, 100]]) = []) := Lib.hid (by rw [Ix.phr_same hA hat _ _ (by decide), HMP.out]; exact Ix.dogs_phr2)
      have HL8 : Hid (T.length ≤ 100000000) := Lib.hid (by omega)
      obtain ⟨Y, hY⟩ : ∃ Y, wr.alloc (.cells #[.int .i64 7] 3) = Y := ⟨_, rfl⟩
      have HNY : Hid (Below wr.heap.size wr Y) := Lib.hid (by rw [← hY]; exact Tx.newb _ _)
      have HYB := Lib.hid (Tx.step hb HNY.out)
      have HI7 : Hid (Ix.IA Y (some ⟨wr.heap.size, 0, none⟩) 1 [7]) := Lib.hid (by rw [← hY]; exact Ix.IA.lit (xs := [7]) rfl rfl (by decide))
      obtain ⟨hp0, y0⟩ := HX.out _ HYB.out
      have HP0 := Lib.hid hp0
      have t1 : True := trivial
      have t2 : True := trivial
      have p1 : True := trivial
      clear hin hA hat hp0
      go_wp2_with (first
        | (go_at_call 19; ((with_reducible refine (ix_Right_c T a4 c4 _ HP0.out (by omega)).mono ?_); rintro e y1 ⟨rfl, hy1⟩; rw [HE1.out]; have HB5 := Lib.hid (Tx.step HYB.out hy1); have HI5 := Lib.hid (HI7.out.below hy1); clear hy1; obtain ⟨hp1, x1⟩ := HX.out _ HB5.out; have HP1 := Lib.hid hp1; clear hp1))
        | (go_at_call 22; (go_must (refine (ix_Word_c T a4 c4 0 [116, 114, 97, 105, 110, 105, 110, 103] _ HP1.out HL8.out).mono ?_); rintro e y2 ⟨v6, rfl, hown6, hy2⟩; rw [HE2.out] at hown6; obtain ⟨a6, c6, rfl, hI6, _⟩ := Ix.IA.of_own hown6 rfl; have HA6 := Lib.hid hI6; have HB6 := Lib.hid (Tx.step HB5.out hy2); have HI6 := Lib.hid (HI5.out.below hy2); clear hy2 hown6 hI6))
        | (go_at_call 24; (go_must (refine (ix_Prefix_c T a4 c4 1 [100, 111] _ HP7.out HL8.out).mono ?_); rintro e y4 ⟨v8, rfl, hown8, hy4⟩; rw [HE3.out] at hown8; obtain ⟨a8, c8, rfl, hI8, _⟩ := Ix.IA.of_own hown8 rfl; have HA8 := Lib.hid hI8; have HB8 := Lib.hid (Tx.step HB7.out hy4); have HI8 := Lib.hid (HI7b.out.below hy4); clear hy4 hown8 hI8))
        | (go_at_call 21; have _q := t1; clear t1 _q; (go_must (refine (Ints_c [7] [7] a6 (some ⟨wr.heap.size, 0, none⟩) c6 1 _ HA6.out HI6.out).mono ?_); rintro e y3 ⟨rfl, hy3⟩; have HB7 := Lib.hid (Tx.step HB6.out hy3); have HI7b := Lib.hid (HI6.out.below hy3); clear hy3; obtain ⟨hp7, x7⟩ := HX.out _ HB7.out; have HP7 := Lib.hid hp7; clear hp7))
        | (go_at_call 21; have _q := t2; clear t2 _q; (go_must (refine (Ints_c [7] [7] a8 (some ⟨wr.heap.size, 0, none⟩) c8 1 _ HA8.out HI8.out).mono ?_); rintro e y5 ⟨rfl, hy5⟩; have HB9 := Lib.hid ((Tx.step HB8.out hy5)); have HI9 := Lib.hid (HI8.out.below hy5); clear hy5; obtain ⟨Z, hZ⟩ : ∃ Z, y5.alloc (.cells #[.string ⟨#[100, 111, 103, 115]⟩, .string ⟨#[97, 110, 100]⟩] 9) = Z := ⟨_, rfl⟩; have HNZ : Hid (Below y5.heap.size y5 Z) := Lib.hid (by rw [← hZ]; exact Tx.newb _ _); have HSZ : Hid (SLA Z (some ⟨y5.heap.size, 0, none⟩) 2 [⟨#[100, 111, 103, 115]⟩, ⟨#[97, 110, 100]⟩]) := Lib.hid (by rw [← hZ]; exact SLA.new (xs := [⟨#[100, 111, 103, 115]⟩, ⟨#[97, 110, 100]⟩]) (by rfl) (by rfl) (by decide)); have HB10 := Lib.hid (Tx.step HB9.out HNZ.out); obtain ⟨hp9, x9⟩ := HX.out _ HB9.out; have HP10 := Lib.hid (HX.out _ HB10.out).1; have HI10 := Lib.hid (HI9.out.below HNZ.out); clear hp9))
        | (go_at_call 26; have _q := p1; clear p1 _q; (go_must (refine (ix_Phrase_c T a4 c4 1 [[100, 111, 103, 115], [97, 110, 100]] (some ⟨y5.heap.size, 0, none⟩) 2 _ HP10.out HL8.out HSZ.out (by decide) (by decide) HW1.out HW2.out).mono ?_); rintro e y6 ⟨v11, rfl, hown11, hy6⟩; rw [HE4.out] at hown11; obtain ⟨a11, c11, rfl, hI11, _⟩ := Ix.IA.of_own hown11 rfl; have HA11 := Lib.hid hI11; have HB11 := Lib.hid (Tx.step HB10.out hy6); have HI11 := Lib.hid (HI10.out.below hy6); clear hy6 hown11 hI11))
        | (go_at_call 21; (go_must (refine (Ints_c [7] [7] a11 (some ⟨wr.heap.size, 0, none⟩) c11 1 _ HA11.out HI11.out).mono ?_); rintro e y7 ⟨rfl, hy7⟩; have HB12 := Lib.hid ((Tx.step HB11.out hy7)); clear hy7; obtain ⟨Q, hQ⟩ : ∃ Q, y7.alloc (.cells #[.string ⟨#[97, 110, 100]⟩, .string ⟨#[97, 110, 100]⟩] 9) = Q := ⟨_, rfl⟩; have HNQ : Hid (Below y7.heap.size y7 Q) := Lib.hid (by rw [← hQ]; exact Tx.newb _ _); have HSQ : Hid (SLA Q (some ⟨y7.heap.size, 0, none⟩) 2 [⟨#[97, 110, 100]⟩, ⟨#[97, 110, 100]⟩]) := Lib.hid (by rw [← hQ]; exact SLA.new (xs := [⟨#[97, 110, 100]⟩, ⟨#[97, 110, 100]⟩]) (by rfl) (by rfl) (by decide)); have HB13 := Lib.hid (Tx.step HB12.out HNQ.out); obtain ⟨hp12, x12⟩ := HX.out _ HB12.out; have HP13 := Lib.hid (HX.out _ HB13.out).1; clear hp12))
        | (go_at_call 26; (go_must (refine (ix_Phrase_c T a4 c4 1 [[97, 110, 100], [97, 110, 100]] (some ⟨y7.heap.size, 0, none⟩) 2 _ HP13.out HL8.out HSQ.out (by decide) (by decide) HW1.out HW2.out).mono ?_); rintro e y8 ⟨v14, rfl, hown14, hy8⟩; rw [HE5.out] at hown14; obtain ⟨a14, c14, rfl, _, _⟩ := Ix.IA.of_own hown14 rfl; have HB14 := Lib.hid (Tx.step HB13.out hy8); clear hy8 hown14)))
      go_ret
      exact ⟨rfl, Tx.step HW4.out HB14.out⟩
end Go.Proofs.YtcjalpegffldaaaGreatDoor
