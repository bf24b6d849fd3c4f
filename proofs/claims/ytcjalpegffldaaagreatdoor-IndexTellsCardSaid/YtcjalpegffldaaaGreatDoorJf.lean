/- The reference's Terms of field 2: what the call returns. -/
import Derived.Test.YtcjalpegffldaaaGreatDoorJe
namespace Go.Proofs.YtcjalpegffldaaaGreatDoor
open Go.RowKit
set_option maxRecDepth 100000

set_option maxHeartbeats 3200000 in
theorem r20_Terms_2 (fs : List Rc.Fl) (a : Option Addr) (c : Nat) (id ver kind : Int) (lang : ByteArray)  (w : World) (h : Rc.FldA w a c fs) (hM : Ix.Mod fs)  :
    Calls Tryz.prog 13 #[.agg #[.int .i64 id, .int .i64 ver, .int .i64 kind, .string lang, .slice a fs.length c], .int .i64 2] w fun e w' => ∃ v, e = .returned v ∧ Ix.OwnT w' w.heap.size v (Ix.term fs 2) ∧ Below w.heap.size w w' := by
  obtain ⟨W, hW⟩ : ∃ W, w.alloc (.cells #[.int .i64 id, .int .i64 ver, .int .i64 kind, .string lang, .slice a fs.length c] 24) = W := ⟨_, rfl⟩
  have hB : Below w.heap.size w W := by rw [← hW]; exact Tx.newb _ _
  have c4 : W.cell? ⟨w.heap.size, 4, none⟩ = some (.slice a fs.length c) := by rw [← hW]; simp
  have HS := Lib.hid (h.below hB); clear h
  have hlen := hM.len
  have hcap := HS.out.cap
  have hbB := hB.size
  go_enter Tryz.func13, Tryz.ntmps13
  go_wp2
  clear hW
  go_loopw [5, 6] (fun v i wr => ∃ (k : Nat), k ≤ fs.length ∧ i = .int .i64 k ∧ Ix.OwnT wr w.heap.size v (Ix.pick Ix.authB [97] (fs.take k)) ∧ Below w.heap.size w wr ∧ Below W.heap.size W wr) (fun _ i _ => fs.length - (intOf i).toNat)
  case atStart => exact ⟨0, Nat.zero_le _, rfl, World.ownsRow_nil _ _ _ _, hB, Below.refl _ _⟩
  case round =>
    obtain ⟨k, hk, rfl, hown, hb, hbW⟩ := hrel
    have hbs := hb.size
    have hbWs := hbW.size
    replace c4 := cell_later hbW c4
    by_cases hlt : k < fs.length
    · obtain ⟨f, hf⟩ : ∃ f, fs[k]? = some f := ⟨_, List.getElem?_eq_getElem hlt⟩
      have hfm := List.mem_of_getElem? hf
      obtain ⟨B, o, sa, sc, rfl, hbl, d0, d1, d2, d3, hsub⟩ := HS.out.get hf
      replace d0 := cell_later hbW d0
      replace d1 := cell_later hbW d1
      replace d2 := cell_later hbW d2
      replace d3 := cell_later hbW d3
      have HSUB := Lib.hid (hsub.below hbW); clear hsub
      have hpt := Ix.pick_take (p := Ix.authB) (codes := [97]) hf
      have hpl := Ix.pick_le (p := Ix.authB) (codes := [97]) (fs := fs.take k) (fun g hg => hM.words g (List.mem_of_mem_take hg) _)
      rw [List.length_take] at hpl
      have hwf := hM.words f hfm [97]
      have hsl := hM.subs f hfm
      have HSZ := Lib.hid (hM.size f hfm)
      obtain ⟨acc, hacc⟩ : ∃ acc, Ix.pick Ix.authB [97] (fs.take k) = acc := ⟨_, rfl⟩
      rw [hacc] at hown hpt hpl
      have hpl2 : acc.length ≤ 20000 := by omega
      clear hpl hacc
      rcases Bool.eq_false_or_eq_true (f.tag.toList == [49, 48, 48]) with t0 | t0
      · have b0 : Rc.tagIs [49, 48, 48] f = true := by unfold Rc.tagIs; rw [← Lib.toList_data]; exact t0
        have hti : Ix.authB f = true := by unfold Ix.authB; rw [b0]; simp
        rw [if_pos hti] at hpt
        clear b0
        obtain ⟨WF, hWF⟩ : ∃ ws, Ix.wordsF f [97] = ws := ⟨_, rfl⟩
        rw [hWF] at hpt hwf
        have HPT := Lib.hid hpt; have HWF := Lib.hid hWF
        clear hpt hWF hti hf
        have CW : Hid (∀ w', Below wr.heap.size wr w' → Calls Tryz.prog 43 #[.agg #[.string f.tag, .string f.ind, .slice sa f.subs.length sc, .int .i64 f.auth], .string ⟨#[97]⟩] w' fun e w'' => ∃ v, e = .returned v ∧ Ix.OwnT w'' w'.heap.size v WF ∧ Below w'.heap.size w' w'') := Lib.hid (fun w' hb' => by
          have h9 := r20_words_c f sa sc ⟨#[97]⟩ w' (HSUB.out.below hb') hsl (by decide) HSZ.out (by rw [show (⟨#[97]⟩ : ByteArray).data.toList = [97] from rfl, HWF.out]; omega)
          rw [show (⟨#[97]⟩ : ByteArray).data.toList = [97] from rfl, HWF.out] at h9
          exact h9)
        obtain ⟨oa, oc, rfl, hso⟩ := Ix.own_sla hown
        have HSO := Lib.hid hso; clear hso
        go_wp2_with (first
          | (go_at_call 41; ((with_reducible refine (r20_joined_c acc WF oa va oc vc _ (HSO.out.below hb2) HSV.out (by omega)).mono ?_); rintro e w3 ⟨v3, rfl, hown3, hb3⟩; have s3 := hb3.size))
          | (go_at_call 43; ((with_reducible refine (CW.out _ (Below.refl _ _)).mono ?_); rintro e w2 ⟨v2, rfl, hown2, hb2⟩; obtain ⟨va, vc, rfl, hsv⟩ := Ix.own_sla hown2; have HSV := Lib.hid hsv; clear hsv hown2; have s2 := hb2.size)))
        go_roundw
        case rel => exact ⟨k + 1, hlt, by go_num, by rw [HPT.out]; exact Ix.own_lower hown3 (by omega), Tx.step (Tx.step hb hb2) hb3, Tx.step (Tx.step hbW hb2) hb3⟩
        case measure => simp [intOf]; omega
      · have b0 : Rc.tagIs [49, 48, 48] f = false := by unfold Rc.tagIs; rw [← Lib.toList_data]; exact t0
        rcases Bool.eq_false_or_eq_true (f.tag.toList == [49, 49, 48]) with t1 | t1
        · have b1 : Rc.tagIs [49, 49, 48] f = true := by unfold Rc.tagIs; rw [← Lib.toList_data]; exact t1
          have hti : Ix.authB f = true := by unfold Ix.authB; rw [b1]; simp
          rw [if_pos hti] at hpt
          clear b0 b1
          obtain ⟨WF, hWF⟩ : ∃ ws, Ix.wordsF f [97] = ws := ⟨_, rfl⟩
          rw [hWF] at hpt hwf
          have HPT := Lib.hid hpt; have HWF := Lib.hid hWF
          clear hpt hWF hti hf
          have CW : Hid (∀ w', Below wr.heap.size wr w' → Calls Tryz.prog 43 #[.agg #[.string f.tag, .string f.ind, .slice sa f.subs.length sc, .int .i64 f.auth], .string ⟨#[97]⟩] w' fun e w'' => ∃ v, e = .returned v ∧ Ix.OwnT w'' w'.heap.size v WF ∧ Below w'.heap.size w' w'') := Lib.hid (fun w' hb' => by
            have h9 := r20_words_c f sa sc ⟨#[97]⟩ w' (HSUB.out.below hb') hsl (by decide) HSZ.out (by rw [show (⟨#[97]⟩ : ByteArray).data.toList = [97] from rfl, HWF.out]; omega)
            rw [show (⟨#[97]⟩ : ByteArray).data.toList = [97] from rfl, HWF.out] at h9
            exact h9)
          obtain ⟨oa, oc, rfl, hso⟩ := Ix.own_sla hown
          have HSO := Lib.hid hso; clear hso
          go_wp2_with (first
            | (go_at_call 41; ((with_reducible refine (r20_joined_c acc WF oa va oc vc _ (HSO.out.below hb2) HSV.out (by omega)).mono ?_); rintro e w3 ⟨v3, rfl, hown3, hb3⟩; have s3 := hb3.size))
            | (go_at_call 43; ((with_reducible refine (CW.out _ (Below.refl _ _)).mono ?_); rintro e w2 ⟨v2, rfl, hown2, hb2⟩; obtain ⟨va, vc, rfl, hsv⟩ := Ix.own_sla hown2; have HSV := Lib.hid hsv; clear hsv hown2; have s2 := hb2.size)))
          go_roundw
          case rel => exact ⟨k + 1, hlt, by go_num, by rw [HPT.out]; exact Ix.own_lower hown3 (by omega), Tx.step (Tx.step hb hb2) hb3, Tx.step (Tx.step hbW hb2) hb3⟩
          case measure => simp [intOf]; omega
        · have b1 : Rc.tagIs [49, 49, 48] f = false := by unfold Rc.tagIs; rw [← Lib.toList_data]; exact t1
          rcases Bool.eq_false_or_eq_true (f.tag.toList == [55, 48, 48]) with t2 | t2
          · have b2 : Rc.tagIs [55, 48, 48] f = true := by unfold Rc.tagIs; rw [← Lib.toList_data]; exact t2
            have hti : Ix.authB f = true := by unfold Ix.authB; rw [b2]; simp
            rw [if_pos hti] at hpt
            clear b0 b1 b2
            obtain ⟨WF, hWF⟩ : ∃ ws, Ix.wordsF f [97] = ws := ⟨_, rfl⟩
            rw [hWF] at hpt hwf
            have HPT := Lib.hid hpt; have HWF := Lib.hid hWF
            clear hpt hWF hti hf
            have CW : Hid (∀ w', Below wr.heap.size wr w' → Calls Tryz.prog 43 #[.agg #[.string f.tag, .string f.ind, .slice sa f.subs.length sc, .int .i64 f.auth], .string ⟨#[97]⟩] w' fun e w'' => ∃ v, e = .returned v ∧ Ix.OwnT w'' w'.heap.size v WF ∧ Below w'.heap.size w' w'') := Lib.hid (fun w' hb' => by
              have h9 := r20_words_c f sa sc ⟨#[97]⟩ w' (HSUB.out.below hb') hsl (by decide) HSZ.out (by rw [show (⟨#[97]⟩ : ByteArray).data.toList = [97] from rfl, HWF.out]; omega)
              rw [show (⟨#[97]⟩ : ByteArray).data.toList = [97] from rfl, HWF.out] at h9
              exact h9)
            obtain ⟨oa, oc, rfl, hso⟩ := Ix.own_sla hown
            have HSO := Lib.hid hso; clear hso
            go_wp2_with (first
              | (go_at_call 41; ((with_reducible refine (r20_joined_c acc WF oa va oc vc _ (HSO.out.below hb2) HSV.out (by omega)).mono ?_); rintro e w3 ⟨v3, rfl, hown3, hb3⟩; have s3 := hb3.size))
              | (go_at_call 43; ((with_reducible refine (CW.out _ (Below.refl _ _)).mono ?_); rintro e w2 ⟨v2, rfl, hown2, hb2⟩; obtain ⟨va, vc, rfl, hsv⟩ := Ix.own_sla hown2; have HSV := Lib.hid hsv; clear hsv hown2; have s2 := hb2.size)))
            go_roundw
            case rel => exact ⟨k + 1, hlt, by go_num, by rw [HPT.out]; exact Ix.own_lower hown3 (by omega), Tx.step (Tx.step hb hb2) hb3, Tx.step (Tx.step hbW hb2) hb3⟩
            case measure => simp [intOf]; omega
          · have b2 : Rc.tagIs [55, 48, 48] f = false := by unfold Rc.tagIs; rw [← Lib.toList_data]; exact t2
            rcases Bool.eq_false_or_eq_true (f.tag.toList == [55, 49, 48]) with t3 | t3
            · have b3 : Rc.tagIs [55, 49, 48] f = true := by unfold Rc.tagIs; rw [← Lib.toList_data]; exact t3
              have hti : Ix.authB f = true := by unfold Ix.authB; rw [b3]; simp
              rw [if_pos hti] at hpt
              clear b0 b1 b2 b3
              obtain ⟨WF, hWF⟩ : ∃ ws, Ix.wordsF f [97] = ws := ⟨_, rfl⟩
              rw [hWF] at hpt hwf
              have HPT := Lib.hid hpt; have HWF := Lib.hid hWF
              clear hpt hWF hti hf
              have CW : Hid (∀ w', Below wr.heap.size wr w' → Calls Tryz.prog 43 #[.agg #[.string f.tag, .string f.ind, .slice sa f.subs.length sc, .int .i64 f.auth], .string ⟨#[97]⟩] w' fun e w'' => ∃ v, e = .returned v ∧ Ix.OwnT w'' w'.heap.size v WF ∧ Below w'.heap.size w' w'') := Lib.hid (fun w' hb' => by
                have h9 := r20_words_c f sa sc ⟨#[97]⟩ w' (HSUB.out.below hb') hsl (by decide) HSZ.out (by rw [show (⟨#[97]⟩ : ByteArray).data.toList = [97] from rfl, HWF.out]; omega)
                rw [show (⟨#[97]⟩ : ByteArray).data.toList = [97] from rfl, HWF.out] at h9
                exact h9)
              obtain ⟨oa, oc, rfl, hso⟩ := Ix.own_sla hown
              have HSO := Lib.hid hso; clear hso
              go_wp2_with (first
                | (go_at_call 41; ((with_reducible refine (r20_joined_c acc WF oa va oc vc _ (HSO.out.below hb2) HSV.out (by omega)).mono ?_); rintro e w3 ⟨v3, rfl, hown3, hb3⟩; have s3 := hb3.size))
                | (go_at_call 43; ((with_reducible refine (CW.out _ (Below.refl _ _)).mono ?_); rintro e w2 ⟨v2, rfl, hown2, hb2⟩; obtain ⟨va, vc, rfl, hsv⟩ := Ix.own_sla hown2; have HSV := Lib.hid hsv; clear hsv hown2; have s2 := hb2.size)))
              go_roundw
              case rel => exact ⟨k + 1, hlt, by go_num, by rw [HPT.out]; exact Ix.own_lower hown3 (by omega), Tx.step (Tx.step hb hb2) hb3, Tx.step (Tx.step hbW hb2) hb3⟩
              case measure => simp [intOf]; omega
            · have b3 : Rc.tagIs [55, 49, 48] f = false := by unfold Rc.tagIs; rw [← Lib.toList_data]; exact t3
              have hti : ¬ Ix.authB f = true := by unfold Ix.authB; rw [b0, b1, b2, b3]; simp
              clear b0 b1 b2 b3
              rw [if_neg hti, List.append_nil] at hpt
              have HPT := Lib.hid hpt
              clear hpt hti hf
              go_wp2
              go_roundw
              case rel => exact ⟨k + 1, hlt, by go_num, by rw [HPT.out]; exact hown, hb, hbW⟩
              case measure => simp [intOf]; omega
    · obtain rfl : k = fs.length := by omega
      rw [List.take_length] at hown
      go_wp2
      go_ret
      exact ⟨_, rfl, hown, hb⟩
end Go.Proofs.YtcjalpegffldaaaGreatDoor

/- The reference's All: a list that the call owns. -/
namespace Go.Proofs.YtcjalpegffldaaaGreatDoor
open Go.RowKit
set_option maxRecDepth 100000

set_option maxHeartbeats 1600000 in
theorem r07_All_own_c (f : Rc.Fl) (a : Option Addr) (c : Nat) (codes : ByteArray) (w : World) (h : Rc.SubA w a c f.subs) (hl : f.subs.length ≤ 1000) (hs : codes.size ≤ 1000) :
    Calls Tryz.prog 45 #[.agg #[.string f.tag, .string f.ind, .slice a f.subs.length c, .int .i64 f.auth], .string codes] w fun e w' => ∃ v, e = .returned v ∧ w'.ownsRow w.heap.size 9 1 v (Rc.allV f.subs codes.data.toList).length ((Rc.allV f.subs codes.data.toList).map Value.string) ∧ Below w.heap.size w w' := by
  obtain ⟨i0, hi0, hz0, hz1, hz2⟩ := info_parts info_str
  obtain ⟨W, hW⟩ : ∃ W, w.alloc (.cells #[.string f.tag, .string f.ind, .slice a f.subs.length c, .int .i64 f.auth] 55) = W := ⟨_, rfl⟩
  have hB : Below w.heap.size w W := by rw [← hW]; exact Tx.newb _ _
  have c2 : W.cell? ⟨w.heap.size, 2, none⟩ = some (.slice a f.subs.length c) := by rw [← hW]; simp
  have hS := h.below hB
  have hcap := h.cap
  go_enter Tryz.func45, Tryz.ntmps45
  go_wp2
  clear hW
  go_loopw [5, 6] (fun v i wr => ∃ (k : Nat) (L : List ByteArray), k ≤ f.subs.length ∧ i = .int .i64 k ∧ Hid (L = Rc.allV (f.subs.take k) codes.data.toList) ∧ L.length ≤ k ∧ wr.ownsRow W.heap.size 9 1 v L.length (L.map Value.string) ∧ Below W.heap.size W wr) (fun _ i _ => f.subs.length - (intOf i).toNat)
  case atStart => exact ⟨0, [], Nat.zero_le _, rfl, Lib.hid rfl, Nat.le_refl _, World.ownsRow_nil _ _ _ _, Below.refl _ _⟩
  case round =>
    obtain ⟨k, L, hk, rfl, hL, hLk, hown, hb⟩ := hrel
    have hbs := hb.size
    have hbw := Tx.step hB hb
    replace c2 := cell_later hb c2
    by_cases hlt : k < f.subs.length
    · obtain ⟨x, hx⟩ : ∃ x, f.subs[k]? = some x := ⟨_, List.getElem?_eq_getElem hlt⟩
      obtain ⟨b, o, rfl, hbl, c0, c1⟩ := hS.get hx
      replace c0 := cell_later hb c0
      replace c1 := cell_later hb c1
      have hT := Rc.allV_take codes.data.toList hx
      cases hH : Rc.hasCode codes.data.toList x.1 with
      | true =>
        rw [if_pos hH, ← hL.out] at hT
        have HT := Lib.hid hT; clear hT
        have HH := Lib.hid hH; clear hH hx
        go_wp2_with (first
          | (go_at_call 75; refine (r07_in_c x.1 codes _ (by omega)).mono ?_; rintro e w1 ⟨rfl, rfl⟩; rw [HH.out])
          | (at_builtin; go_must (refine wpList_append_own _ rfl _ _ 28 rfl W.heap.size 9 i0 (.string ⟨#[]⟩) 1 16 Tryz.underlying28 hi0 hz0 hz1 hz2 rfl (by decide) _ L.length _ rfl (hown.alloc _) ⟨_, 0, none⟩ 1 1 [.string x.2] rfl rfl (Tx.cell_one_at _ _ (by first | rfl | simp) _ _) (by simp [Value.oneCell']) (by unfold maxLen; omega) (by omega) (by simp; omega) ?_); intro v' w2 hown2 hg2 hnil2))
        have hb2 : Below W.heap.size W w2 := (hb.alloc hbs _).grown hg2 (by simp; omega) (fun j hj => (hown.lt j hj).1)
        go_roundw
        case rel => exact ⟨k + 1, L ++ [x.2], by omega, by go_num, Lib.hid HT.out.symm, by simp; omega, by simpa using hown2, hb2⟩
        case measure => simp [intOf]; omega
      | false =>
        rw [if_neg (by simp [hH]), List.append_nil, ← hL.out] at hT
        have HT := Lib.hid hT; clear hT
        have HH := Lib.hid hH; clear hH hx
        go_wp2_with (go_at_call 75; refine (r07_in_c x.1 codes _ (by omega)).mono ?_; rintro e w1 ⟨rfl, rfl⟩; rw [HH.out])
        go_roundw
        case rel => exact ⟨k + 1, L, by omega, by go_num, Lib.hid HT.out.symm, by omega, hown, hb⟩
        case measure => simp [intOf]; omega
    · obtain rfl : k = f.subs.length := by omega
      have hL2 := hL.out
      rw [Rc.take_all] at hL2
      subst hL2
      go_wp2
      go_ret
      exact ⟨_, rfl, ⟨hown.1, by
        rcases hown.2 with h1 | ⟨g, cap, cur, h1, h2, h3, h4⟩
        · exact .inl h1
        · exact .inr ⟨g, cap, cur, h1, by have := hB.size; omega, h3, h4⟩⟩, hbw⟩

end Go.Proofs.YtcjalpegffldaaaGreatDoor

/- The reference's Terms of field 4: what the call returns. -/
namespace Go.Proofs.YtcjalpegffldaaaGreatDoor
open Go.RowKit
set_option maxRecDepth 100000

namespace Ix
open Rc
def numL (L : List ByteArray) : List By := (L.map fun s => plainB s.data.toList).filter fun x => !(x == [])
def nums (fs : List Fl) : List By := (fs.filter numB).flatMap numF
theorem numL_nil : numL [] = [] := rfl
theorem numL_le (L : List ByteArray) : (numL L).length ≤ L.length := by
  unfold numL
  exact Nat.le_trans (List.length_filter_le _ _) (by rw [List.length_map]; exact Nat.le_refl _)
theorem numL_take {L : List ByteArray} {k : Nat} {x : ByteArray} (h : L[k]? = some x) : numL (L.take (k + 1)) = numL (L.take k) ++ (if plainB x.data.toList = [] then [] else [plainB x.data.toList]) := by
  have hlt := (List.getElem?_eq_some_iff.1 h).1
  unfold numL
  rw [List.take_succ_eq_append_getElem hlt, List.map_append, List.filter_append]
  rw [List.getElem?_eq_getElem hlt] at h
  injection h with h
  rw [h]
  congr 1
  by_cases hp : plainB x.data.toList = [] <;> simp [hp]
theorem numF_le (f : Fl) : (numF f).length ≤ f.subs.length := by
  unfold numF
  refine Nat.le_trans (List.length_filter_le _ _) ?_
  rw [List.length_map]
  unfold allV
  rw [List.length_map]
  exact List.length_filter_le _ _
theorem nums_le : ∀ {fs : List Fl}, (∀ f ∈ fs, f.subs.length ≤ 1000) → (nums fs).length ≤ 1000 * fs.length
  | [], _ => Nat.zero_le _
  | f :: fs, h => by
    have ih := nums_le (fs := fs) (fun g hg => h g (List.mem_cons_of_mem _ hg))
    have h1 := h f (List.mem_cons_self ..)
    have h2 := numF_le f
    unfold nums at ih ⊢
    by_cases hp : numB f = true
    · rw [List.filter_cons_of_pos hp, List.flatMap_cons, List.length_append, List.length_cons]
      omega
    · rw [List.filter_cons_of_neg hp, List.length_cons]
      omega
theorem nums_take {fs : List Fl} {k : Nat} {f : Fl} (h : fs[k]? = some f) : nums (fs.take (k + 1)) = nums (fs.take k) ++ (if numB f = true then numF f else []) := by
  have hlt := (List.getElem?_eq_some_iff.1 h).1
  unfold nums
  rw [List.take_succ_eq_append_getElem hlt, List.filter_append, List.flatMap_append]
  rw [List.getElem?_eq_getElem hlt] at h
  injection h with h
  rw [h]
  congr 1
  by_cases hp : numB f = true
  · rw [if_pos hp, List.filter_cons_of_pos hp]; simp
  · rw [if_neg hp, List.filter_cons_of_neg hp]; rfl
end Ix

set_option maxHeartbeats 3200000 in
theorem r20_Terms_4 (fs : List Rc.Fl) (a : Option Addr) (c : Nat) (id ver kind : Int) (lang : ByteArray)  (w : World) (h : Rc.FldA w a c fs) (hM : Ix.Mod fs)  :
    Calls Tryz.prog 13 #[.agg #[.int .i64 id, .int .i64 ver, .int .i64 kind, .string lang, .slice a fs.length c], .int .i64 4] w fun e w' => ∃ v, e = .returned v ∧ Ix.OwnT w' w.heap.size v (Ix.term fs 4) ∧ Below w.heap.size w w' := by
  obtain ⟨W, hW⟩ : ∃ W, w.alloc (.cells #[.int .i64 id, .int .i64 ver, .int .i64 kind, .string lang, .slice a fs.length c] 24) = W := ⟨_, rfl⟩
  have hB : Below w.heap.size w W := by rw [← hW]; exact Tx.newb _ _
  have c4 : W.cell? ⟨w.heap.size, 4, none⟩ = some (.slice a fs.length c) := by rw [← hW]; simp
  have HS := Lib.hid (h.below hB); clear h
  have hlen := hM.len
  have hcap := HS.out.cap
  have hbB := hB.size
  obtain ⟨i0, hi0, hz0, hz1, hz2⟩ := info_parts info_str
  have HI := Lib.hid hi0; clear hi0
  go_enter Tryz.func13, Tryz.ntmps13
  go_wp2
  clear hW
  go_loopw [5, 8] (fun v i wr => ∃ (k : Nat), k ≤ fs.length ∧ i = .int .i64 k ∧ Ix.OwnT wr W.heap.size v (Ix.nums (fs.take k)) ∧ Below w.heap.size w wr ∧ Below W.heap.size W wr) (fun _ i _ => fs.length - (intOf i).toNat)
  case atStart => exact ⟨0, Nat.zero_le _, rfl, World.ownsRow_nil _ _ _ _, hB, Below.refl _ _⟩
  case round =>
    obtain ⟨k, hk, rfl, hown, hb, hbW⟩ := hrel
    have hbs := hb.size
    have hbWs := hbW.size
    replace c4 := cell_later hbW c4
    by_cases hlt : k < fs.length
    · obtain ⟨f, hf⟩ : ∃ f, fs[k]? = some f := ⟨_, List.getElem?_eq_getElem hlt⟩
      have hfm := List.mem_of_getElem? hf
      obtain ⟨B, o, sa, sc, rfl, hbl, d0, d1, d2, d3, hsub⟩ := HS.out.get hf
      replace d0 := cell_later hbW d0
      replace d1 := cell_later hbW d1
      replace d2 := cell_later hbW d2
      replace d3 := cell_later hbW d3
      have HSUB := Lib.hid (hsub.below hbW); clear hsub
      have hpt := Ix.nums_take hf
      have hpl := Ix.nums_le (fs := fs.take k) (fun g hg => hM.subs g (List.mem_of_mem_take hg))
      rw [List.length_take] at hpl
      have hsl := hM.subs f hfm
      have HSZ := Lib.hid (hM.size f hfm)
      obtain ⟨acc, hacc⟩ : ∃ acc, Ix.nums (fs.take k) = acc := ⟨_, rfl⟩
      rw [hacc] at hown hpt hpl
      have hpl2 : acc.length ≤ 20000 := by omega
      clear hpl hacc
      rcases Bool.eq_false_or_eq_true (f.tag.toList == [48, 50, 48]) with t0 | t0
      · have b0 : Rc.tagIs [48, 50, 48] f = true := by unfold Rc.tagIs; rw [← Lib.toList_data]; exact t0
        have hti : Ix.numB f = true := by unfold Ix.numB; rw [b0]; simp
        rw [if_pos hti] at hpt
        clear b0
        obtain ⟨L, hL⟩ : ∃ L, Rc.allV f.subs [97] = L := ⟨_, rfl⟩
        have hLl : L.length ≤ 1000 := by rw [← hL]; unfold Rc.allV; rw [List.length_map]; exact Nat.le_trans (List.length_filter_le _ _) hsl
        have hLz : ∀ x ∈ L, x.size ≤ 100000 := fun x hx => by
          rw [← hL] at hx
          unfold Rc.allV at hx
          obtain ⟨y, hy, rfl⟩ := List.mem_map.1 hx
          exact HSZ.out y (List.mem_filter.1 hy).1
        have hNF : Ix.numF f = Ix.numL L := by unfold Ix.numF Ix.numL; rw [hL]
        rw [hNF] at hpt
        have HPT := Lib.hid hpt; have HL := Lib.hid hL; have HLZ := Lib.hid hLz
        clear hpt hL hLz hNF hti hf
        have CW : Hid (∀ w', Below wr.heap.size wr w' → Calls Tryz.prog 45 #[.agg #[.string f.tag, .string f.ind, .slice sa f.subs.length sc, .int .i64 f.auth], .string ⟨#[97]⟩] w' fun e w'' => ∃ v, e = .returned v ∧ w''.ownsRow w'.heap.size 9 1 v L.length (L.map Value.string) ∧ Below w'.heap.size w' w'') := Lib.hid (fun w' hb' => by
          have h9 := r07_All_own_c f sa sc ⟨#[97]⟩ w' (HSUB.out.below hb') hsl (by decide)
          rw [show (⟨#[97]⟩ : ByteArray).data.toList = [97] from rfl, HL.out] at h9
          exact h9)
        go_wp2_with (go_at_call 45; ((with_reducible refine (CW.out _ (Below.refl _ _)).mono ?_); rintro e w2 ⟨v2, rfl, hown2, hb2⟩; obtain ⟨va, vc, rfl, hsv⟩ := SLA.of_own hown2 rfl; have HSV := Lib.hid hsv; have hlo2 : ∀ ad, va = some ad → wr.heap.size ≤ ad.block ∧ ad.block < w2.heap.size := (fun ad h => by subst h; exact hown2.lt _ rfl); clear hsv hown2; have s2 := hb2.size; have own3 := own_below hown hb2; have k2 := Tx.step hb hb2; have kW := Tx.step hbW hb2))
        have hcap2 := HSV.out.cap
        have hw9 := IntWalk.i64_in ((k : Int) + 1) ⟨by omega, by omega⟩
        go_loopw [5, 11] (fun v i wr => ∃ (m : Nat), m ≤ L.length ∧ i = .int .i64 m ∧ Ix.OwnT wr W.heap.size v (acc ++ Ix.numL (L.take m)) ∧ Below w.heap.size w wr ∧ Below W.heap.size W wr ∧ Hid (SLA wr va vc L) ∧ (∀ ad, va = some ad → v.ownBlock ≠ some ad.block ∧ ad.block < wr.heap.size)) (fun _ i _ => L.length - (intOf i).toNat)
        case atStart => exact ⟨0, Nat.zero_le _, rfl, by rw [List.take_zero, Ix.numL_nil, List.append_nil]; exact own3, k2, kW, HSV, fun ad h => ⟨fun e => by have := (hown.lt _ e).2; have := (hlo2 ad h).1; omega, (hlo2 ad h).2⟩⟩
        case round =>
          obtain ⟨m, hm, rfl, hown4, hb4, hbW4, hs4, hne4⟩ := hrel
          have hbs4 := hb4.size
          have hbWs4 := hbW4.size
          by_cases hlt2 : m < L.length
          · obtain ⟨x, hx⟩ : ∃ x, L[m]? = some x := ⟨_, List.getElem?_eq_getElem hlt2⟩
            obtain ⟨B2, o2, rfl, hbl2, e2⟩ := hs4.out.get hx
            have hxs := HLZ.out x (List.mem_of_getElem? hx)
            have hnt := Ix.numL_take hx
            have hnl := Ix.numL_le (L.take m)
            rw [List.length_take] at hnl
            obtain ⟨PL, hPL⟩ : ∃ P, Ix.plainB x.data.toList = P := ⟨_, rfl⟩
            rw [hPL] at hnt
            have HPL := Lib.hid hPL
            clear hPL hx
            by_cases hP : PL = []
            · subst hP
              rw [if_pos rfl, List.append_nil] at hnt
              have HNT := Lib.hid hnt; clear hnt
              go_wp2_with (go_at_call 46; ((with_reducible refine (r20_plain_c x _ (by omega)).mono ?_); rintro e w5 ⟨rfl, hb5⟩; rw [HPL.out]; have s5 := hb5.size))
              go_roundw
              case rel => exact ⟨m + 1, hlt2, by go_num, by rw [HNT.out]; exact own_below hown4 hb5, Tx.step hb4 hb5, Tx.step hbW4 hb5, Lib.hid (hs4.out.below hb5), fun ad h => ⟨(hne4 ad h).1, by have := (hne4 ad h).2; omega⟩⟩
              case measure => simp [intOf]; omega
            · rw [if_neg hP] at hnt
              have HNT := Lib.hid hnt; clear hnt
              obtain ⟨P, hPP⟩ : ∃ P : ByteArray, (⟨PL.toArray⟩ : ByteArray) = P := ⟨_, rfl⟩
              have hPe : (P.toList == []) = false := by rw [Lib.toList_data, ← hPP]; simpa using hP
              have HPP := Lib.hid hPP; clear hPP
              have HK : Hid ((acc ++ Ix.numL (L.take m)).length ≤ 30000) := Lib.hid (by rw [List.length_append]; omega)
              go_wp2_with (first
                | (at_builtin; go_must (refine wpList_append_sl rfl _ _ 28 rfl W.heap.size 9 i0 _ 1 16 Tryz.underlying28 HI.out hz0 hz1 hz2 rfl (by decide) _ (acc ++ Ix.numL (L.take m)).length _ rfl (HO6.out.alloc _) (some ⟨_, 0, none⟩) 1 1 [Value.string P] rfl rfl (fun h9 => by cases h9) (fun ad had => by cases had; exact Br.cells_new_at _ _ (by first | rfl | simp) _ _) (by simp [Value.oneCell']) (by unfold maxLen; have := HK.out; omega) (by have := HK.out; omega) (by simp; omega) ?_); intro v' w7 hown7 hg7 hnil7)
                | (go_at_call 46; ((with_reducible refine (r20_plain_c x w5 (by omega)).mono ?_); rintro e w6 ⟨rfl, hb6⟩; rw [HPL.out, HPP.out]; have s6 := hb6.size; have HO6 := Lib.hid (own_below (own_below hown4 hb5) hb6)))
                | (go_at_call 46; ((with_reducible refine (r20_plain_c x _ (by omega)).mono ?_); rintro e w5 ⟨rfl, hb5⟩; rw [HPL.out, HPP.out]; have s5 := hb5.size; have e5 := cell_later hb5 e2)))
              have hW6 := Tx.step (Tx.step hbW4 hb5) hb6
              have hg6 : Below W.heap.size W w7 := (hW6.alloc hW6.size _).grown hg7 (by simp; omega) (fun i hi => (hown4.lt i hi).1)
              have s7 := hg7.size
              rw [World.size_alloc] at s7
              go_roundw
              case rel => exact ⟨m + 1, hlt2, by go_num, by unfold Ix.OwnT; rw [HNT.out, ← List.append_assoc, List.length_append, List.map_append]; rw [← HPP.out] at hown7; exact hown7, Tx.step hB hg6, hg6, Lib.hid ((((hs4.out.below hb5).below hb6).below (Tx.newb _ _)).grown hg7 (fun g hg e => (hne4 g hg).1 e.symm)), fun ad h => ⟨fun e => by
                    rcases hnil7 with h9 | h9
                    · rw [h9] at e; exact (hne4 ad h).1 e
                    · rw [h9] at e; injection e with e; have := (hne4 ad h).2; simp at e; omega, by have := (hne4 ad h).2; omega⟩⟩
              case measure => simp [intOf]; omega
          · obtain rfl : m = L.length := by omega
            rw [List.take_length] at hown4
            go_wp2
            go_roundw
            case rel => exact ⟨k + 1, hlt, by go_num, by rw [HPT.out]; exact hown4, hb4, hbW4⟩
            case measure => simp [intOf]; omega
      · have b0 : Rc.tagIs [48, 50, 48] f = false := by unfold Rc.tagIs; rw [← Lib.toList_data]; exact t0
        rcases Bool.eq_false_or_eq_true (f.tag.toList == [48, 50, 50]) with t1 | t1
        · have b1 : Rc.tagIs [48, 50, 50] f = true := by unfold Rc.tagIs; rw [← Lib.toList_data]; exact t1
          have hti : Ix.numB f = true := by unfold Ix.numB; rw [b1]; simp
          rw [if_pos hti] at hpt
          clear b0 b1
          obtain ⟨L, hL⟩ : ∃ L, Rc.allV f.subs [97] = L := ⟨_, rfl⟩
          have hLl : L.length ≤ 1000 := by rw [← hL]; unfold Rc.allV; rw [List.length_map]; exact Nat.le_trans (List.length_filter_le _ _) hsl
          have hLz : ∀ x ∈ L, x.size ≤ 100000 := fun x hx => by
            rw [← hL] at hx
            unfold Rc.allV at hx
            obtain ⟨y, hy, rfl⟩ := List.mem_map.1 hx
            exact HSZ.out y (List.mem_filter.1 hy).1
          have hNF : Ix.numF f = Ix.numL L := by unfold Ix.numF Ix.numL; rw [hL]
          rw [hNF] at hpt
          have HPT := Lib.hid hpt; have HL := Lib.hid hL; have HLZ := Lib.hid hLz
          clear hpt hL hLz hNF hti hf
          have CW : Hid (∀ w', Below wr.heap.size wr w' → Calls Tryz.prog 45 #[.agg #[.string f.tag, .string f.ind, .slice sa f.subs.length sc, .int .i64 f.auth], .string ⟨#[97]⟩] w' fun e w'' => ∃ v, e = .returned v ∧ w''.ownsRow w'.heap.size 9 1 v L.length (L.map Value.string) ∧ Below w'.heap.size w' w'') := Lib.hid (fun w' hb' => by
            have h9 := r07_All_own_c f sa sc ⟨#[97]⟩ w' (HSUB.out.below hb') hsl (by decide)
            rw [show (⟨#[97]⟩ : ByteArray).data.toList = [97] from rfl, HL.out] at h9
            exact h9)
          go_wp2_with (go_at_call 45; ((with_reducible refine (CW.out _ (Below.refl _ _)).mono ?_); rintro e w2 ⟨v2, rfl, hown2, hb2⟩; obtain ⟨va, vc, rfl, hsv⟩ := SLA.of_own hown2 rfl; have HSV := Lib.hid hsv; have hlo2 : ∀ ad, va = some ad → wr.heap.size ≤ ad.block ∧ ad.block < w2.heap.size := (fun ad h => by subst h; exact hown2.lt _ rfl); clear hsv hown2; have s2 := hb2.size; have own3 := own_below hown hb2; have k2 := Tx.step hb hb2; have kW := Tx.step hbW hb2))
          have hcap2 := HSV.out.cap
          have hw9 := IntWalk.i64_in ((k : Int) + 1) ⟨by omega, by omega⟩
          go_loopw [5, 11] (fun v i wr => ∃ (m : Nat), m ≤ L.length ∧ i = .int .i64 m ∧ Ix.OwnT wr W.heap.size v (acc ++ Ix.numL (L.take m)) ∧ Below w.heap.size w wr ∧ Below W.heap.size W wr ∧ Hid (SLA wr va vc L) ∧ (∀ ad, va = some ad → v.ownBlock ≠ some ad.block ∧ ad.block < wr.heap.size)) (fun _ i _ => L.length - (intOf i).toNat)
          case atStart => exact ⟨0, Nat.zero_le _, rfl, by rw [List.take_zero, Ix.numL_nil, List.append_nil]; exact own3, k2, kW, HSV, fun ad h => ⟨fun e => by have := (hown.lt _ e).2; have := (hlo2 ad h).1; omega, (hlo2 ad h).2⟩⟩
          case round =>
            obtain ⟨m, hm, rfl, hown4, hb4, hbW4, hs4, hne4⟩ := hrel
            have hbs4 := hb4.size
            have hbWs4 := hbW4.size
            by_cases hlt2 : m < L.length
            · obtain ⟨x, hx⟩ : ∃ x, L[m]? = some x := ⟨_, List.getElem?_eq_getElem hlt2⟩
              obtain ⟨B2, o2, rfl, hbl2, e2⟩ := hs4.out.get hx
              have hxs := HLZ.out x (List.mem_of_getElem? hx)
              have hnt := Ix.numL_take hx
              have hnl := Ix.numL_le (L.take m)
              rw [List.length_take] at hnl
              obtain ⟨PL, hPL⟩ : ∃ P, Ix.plainB x.data.toList = P := ⟨_, rfl⟩
              rw [hPL] at hnt
              have HPL := Lib.hid hPL
              clear hPL hx
              by_cases hP : PL = []
              · subst hP
                rw [if_pos rfl, List.append_nil] at hnt
                have HNT := Lib.hid hnt; clear hnt
                go_wp2_with (go_at_call 46; ((with_reducible refine (r20_plain_c x _ (by omega)).mono ?_); rintro e w5 ⟨rfl, hb5⟩; rw [HPL.out]; have s5 := hb5.size))
                go_roundw
                case rel => exact ⟨m + 1, hlt2, by go_num, by rw [HNT.out]; exact own_below hown4 hb5, Tx.step hb4 hb5, Tx.step hbW4 hb5, Lib.hid (hs4.out.below hb5), fun ad h => ⟨(hne4 ad h).1, by have := (hne4 ad h).2; omega⟩⟩
                case measure => simp [intOf]; omega
              · rw [if_neg hP] at hnt
                have HNT := Lib.hid hnt; clear hnt
                obtain ⟨P, hPP⟩ : ∃ P : ByteArray, (⟨PL.toArray⟩ : ByteArray) = P := ⟨_, rfl⟩
                have hPe : (P.toList == []) = false := by rw [Lib.toList_data, ← hPP]; simpa using hP
                have HPP := Lib.hid hPP; clear hPP
                have HK : Hid ((acc ++ Ix.numL (L.take m)).length ≤ 30000) := Lib.hid (by rw [List.length_append]; omega)
                go_wp2_with (first
                  | (at_builtin; go_must (refine wpList_append_sl rfl _ _ 28 rfl W.heap.size 9 i0 _ 1 16 Tryz.underlying28 HI.out hz0 hz1 hz2 rfl (by decide) _ (acc ++ Ix.numL (L.take m)).length _ rfl (HO6.out.alloc _) (some ⟨_, 0, none⟩) 1 1 [Value.string P] rfl rfl (fun h9 => by cases h9) (fun ad had => by cases had; exact Br.cells_new_at _ _ (by first | rfl | simp) _ _) (by simp [Value.oneCell']) (by unfold maxLen; have := HK.out; omega) (by have := HK.out; omega) (by simp; omega) ?_); intro v' w7 hown7 hg7 hnil7)
                  | (go_at_call 46; ((with_reducible refine (r20_plain_c x w5 (by omega)).mono ?_); rintro e w6 ⟨rfl, hb6⟩; rw [HPL.out, HPP.out]; have s6 := hb6.size; have HO6 := Lib.hid (own_below (own_below hown4 hb5) hb6)))
                  | (go_at_call 46; ((with_reducible refine (r20_plain_c x _ (by omega)).mono ?_); rintro e w5 ⟨rfl, hb5⟩; rw [HPL.out, HPP.out]; have s5 := hb5.size; have e5 := cell_later hb5 e2)))
                have hW6 := Tx.step (Tx.step hbW4 hb5) hb6
                have hg6 : Below W.heap.size W w7 := (hW6.alloc hW6.size _).grown hg7 (by simp; omega) (fun i hi => (hown4.lt i hi).1)
                have s7 := hg7.size
                rw [World.size_alloc] at s7
                go_roundw
                case rel => exact ⟨m + 1, hlt2, by go_num, by unfold Ix.OwnT; rw [HNT.out, ← List.append_assoc, List.length_append, List.map_append]; rw [← HPP.out] at hown7; exact hown7, Tx.step hB hg6, hg6, Lib.hid ((((hs4.out.below hb5).below hb6).below (Tx.newb _ _)).grown hg7 (fun g hg e => (hne4 g hg).1 e.symm)), fun ad h => ⟨fun e => by
                      rcases hnil7 with h9 | h9
                      · rw [h9] at e; exact (hne4 ad h).1 e
                      · rw [h9] at e; injection e with e; have := (hne4 ad h).2; simp at e; omega, by have := (hne4 ad h).2; omega⟩⟩
                case measure => simp [intOf]; omega
            · obtain rfl : m = L.length := by omega
              rw [List.take_length] at hown4
              go_wp2
              go_roundw
              case rel => exact ⟨k + 1, hlt, by go_num, by rw [HPT.out]; exact hown4, hb4, hbW4⟩
              case measure => simp [intOf]; omega
        · have b1 : Rc.tagIs [48, 50, 50] f = false := by unfold Rc.tagIs; rw [← Lib.toList_data]; exact t1
          have hti : ¬ Ix.numB f = true := by unfold Ix.numB; rw [b0, b1]; simp
          clear b0 b1
          rw [if_neg hti, List.append_nil] at hpt
          have HPT := Lib.hid hpt
          clear hpt hti hf
          go_wp2
          go_roundw
          case rel => exact ⟨k + 1, hlt, by go_num, by rw [HPT.out]; exact hown, hb, hbW⟩
          case measure => simp [intOf]; omega
    · obtain rfl : k = fs.length := by omega
      rw [List.take_length] at hown
      go_wp2
      go_ret
      exact ⟨_, rfl, Ix.own_lower hown hbB, hb⟩
end Go.Proofs.YtcjalpegffldaaaGreatDoor

/- The reference's Terms of every field: what the call returns. -/
namespace Go.Proofs.YtcjalpegffldaaaGreatDoor
open Go.RowKit
set_option maxRecDepth 100000

namespace Ix
open Rc
def termsTo (fs : List Fl) (k : Nat) : List By := (List.range k).flatMap fun i => term fs (i + 1)
theorem termsTo_succ (fs : List Fl) (k : Nat) : termsTo fs (k + 1) = termsTo fs k ++ term fs (k + 1) := by
  unfold termsTo
  rw [List.range_succ, List.flatMap_append]
  simp
theorem terms_zero (fs : List Fl) : terms fs 0 = termsTo fs 4 ++ pick (begB 53) [97] fs := by
  rw [termsTo_succ, termsTo_succ, termsTo_succ, termsTo_succ, show termsTo fs 0 = [] from rfl, List.nil_append]
  rfl
theorem term_len {fs : List Fl} (h : Mod fs) : ∀ k, (term fs k).length ≤ 40000
  | 0 => Nat.zero_le _
  | 1 => by
    have h1 := pick_len (p := tagIs [50, 52, 53]) (codes := [97, 98, 110, 112]) h
    have h2 := pick_len (p := tagIs [50, 52, 54]) (codes := [97, 98]) h
    show (_ ++ _ : List By).length ≤ _
    rw [List.length_append]
    omega
  | 2 => Nat.le_trans (pick_len h) (by decide)
  | 3 => Nat.le_trans (pick_len h) (by decide)
  | 4 => by
    have h1 := nums_le (fs := fs) h.subs
    have h2 := h.len
    show (nums fs).length ≤ _
    omega
  | _ + 5 => Nat.zero_le _
theorem termsTo_len {fs : List Fl} (h : Mod fs) : ∀ k, (termsTo fs k).length ≤ k * 40000
  | 0 => Nat.le_refl _
  | k + 1 => by
    have h1 := termsTo_len h k
    have h2 := term_len h (k + 1)
    rw [termsTo_succ, List.length_append, Nat.succ_mul]
    omega
theorem terms_len {fs : List Fl} (h : Mod fs) (f : Int) : (terms fs f).length ≤ 200000 := by
  by_cases h0 : f = 0
  · have h1 := termsTo_len h 4
    have h2 := pick_len (p := begB 53) (codes := [97]) h
    rw [h0, terms_zero, List.length_append]
    omega
  · unfold terms
    rw [if_neg h0]
    split
    · exact Nat.le_trans (term_len h _) (by decide)
    · exact Nat.zero_le _
end Ix

theorem r20_Terms_14 (fs : List Rc.Fl) (a : Option Addr) (c : Nat) (id ver kind : Int) (lang : ByteArray) (k : Nat) (h1 : 1 ≤ k) (h4 : k ≤ 4) (w : World) (h : Rc.FldA w a c fs) (hM : Ix.Mod fs) :
    Calls Tryz.prog 13 #[.agg #[.int .i64 id, .int .i64 ver, .int .i64 kind, .string lang, .slice a fs.length c], .int .i64 k] w fun e w' => ∃ v, e = .returned v ∧ Ix.OwnT w' w.heap.size v (Ix.term fs k) ∧ Below w.heap.size w w' := by
  rcases (by omega : k = 1 ∨ k = 2 ∨ k = 3 ∨ k = 4) with rfl | rfl | rfl | rfl
  · exact r20_Terms_1 fs a c id ver kind lang w h hM
  · exact r20_Terms_2 fs a c id ver kind lang w h hM
  · exact r20_Terms_3 fs a c id ver kind lang w h hM
  · exact r20_Terms_4 fs a c id ver kind lang w h hM

set_option maxHeartbeats 3200000 in
theorem r20_Terms_0 (fs : List Rc.Fl) (a : Option Addr) (c : Nat) (id ver kind : Int) (lang : ByteArray) (w : World) (h : Rc.FldA w a c fs) (hM : Ix.Mod fs) :
    Calls Tryz.prog 13 #[.agg #[.int .i64 id, .int .i64 ver, .int .i64 kind, .string lang, .slice a fs.length c], .int .i64 0] w fun e w' => ∃ v, e = .returned v ∧ Ix.OwnT w' w.heap.size v (Ix.terms fs 0) ∧ Below w.heap.size w w' := by
  obtain ⟨W, hW⟩ : ∃ W, w.alloc (.cells #[.int .i64 id, .int .i64 ver, .int .i64 kind, .string lang, .slice a fs.length c] 24) = W := ⟨_, rfl⟩
  have hB : Below w.heap.size w W := by rw [← hW]; exact Tx.newb _ _
  have c0 : W.cell? ⟨w.heap.size, 0, none⟩ = some (.int .i64 id) := by rw [← hW]; simp
  have c1 : W.cell? ⟨w.heap.size, 1, none⟩ = some (.int .i64 ver) := by rw [← hW]; simp
  have c2 : W.cell? ⟨w.heap.size, 2, none⟩ = some (.int .i64 kind) := by rw [← hW]; simp
  have c3 : W.cell? ⟨w.heap.size, 3, none⟩ = some (.string lang) := by rw [← hW]; simp
  have c4 : W.cell? ⟨w.heap.size, 4, none⟩ = some (.slice a fs.length c) := by rw [← hW]; simp
  have HS := Lib.hid (h.below hB); clear h
  have hbB := hB.size
  have CT : Hid (∀ (k : Nat) w', 1 ≤ k → k ≤ 4 → Below W.heap.size W w' → Calls Tryz.prog 13 #[.agg #[.int .i64 id, .int .i64 ver, .int .i64 kind, .string lang, .slice a fs.length c], .int .i64 k] w' fun e w'' => ∃ v, e = .returned v ∧ Ix.OwnT w'' w'.heap.size v (Ix.term fs k) ∧ Below w'.heap.size w' w'') := Lib.hid (fun k w' h1 h4 hb => r20_Terms_14 fs a c id ver kind lang k h1 h4 w' (HS.out.below hb) hM)
  have CB : Hid (∀ w', Below W.heap.size W w' → Calls Tryz.prog 44 #[.agg #[.int .i64 id, .int .i64 ver, .int .i64 kind, .string lang, .slice a fs.length c], .int .u8 53, .string ⟨#[97]⟩] w' fun e w'' => ∃ v, e = .returned v ∧ Ix.OwnT w'' w'.heap.size v (Ix.pick (Ix.begB 53) [97] fs) ∧ Below w'.heap.size w' w'') := Lib.hid (fun w' hb => r20_begun_c fs a c id ver kind lang 53 ⟨#[97]⟩ w' (HS.out.below hb) hM (by decide))
  have HM := Lib.hid hM; clear hM
  go_enter Tryz.func13, Tryz.ntmps13
  go_wp2
  clear hW
  go_loopw [5, 12] (fun v i wr => ∃ (k : Nat), k ≤ 4 ∧ i = .int .i64 (k + 1) ∧ Ix.OwnT wr W.heap.size v (Ix.termsTo fs k) ∧ Below W.heap.size W wr) (fun _ i _ => 5 - (intOf i).toNat)
  case atStart => exact ⟨0, Nat.zero_le _, by go_num, World.ownsRow_nil _ _ _ _, Below.refl _ _⟩
  case round =>
    obtain ⟨k, hk, rfl, hown, hb⟩ := hrel
    have hbs := hb.size
    replace c0 := cell_later hb c0
    replace c1 := cell_later hb c1
    replace c2 := cell_later hb c2
    replace c3 := cell_later hb c3
    replace c4 := cell_later hb c4
    have hl := Ix.termsTo_len HM.out k
    obtain ⟨oa, oc, rfl, hso⟩ := Ix.own_sla hown
    have HSO := Lib.hid hso; clear hso
    by_cases hlt : k < 4
    · have hl2 := Ix.term_len HM.out (k + 1)
      have HT := Lib.hid (Ix.termsTo_succ fs k)
      have hk1 : ((k : Int) + 1) ≤ 4 := by omega
      have hcast : ((k + 1 : Nat) : Int) = (k : Int) + 1 := by omega
      have CK : Hid (∀ w', Below W.heap.size W w' → Calls Tryz.prog 13 #[.agg #[.int .i64 id, .int .i64 ver, .int .i64 kind, .string lang, .slice a fs.length c], .int .i64 ((k : Int) + 1)] w' fun e w'' => ∃ v, e = .returned v ∧ Ix.OwnT w'' w'.heap.size v (Ix.term fs (k + 1)) ∧ Below w'.heap.size w' w'') := Lib.hid (fun w' hb => by
        have h9 := CT.out (k + 1) w' (by omega) (by omega) hb
        rw [hcast] at h9
        exact h9)
      clear hcast
      go_wp2_with (first
        | (go_at_call 41; ((with_reducible refine (r20_joined_c (Ix.termsTo fs k) (Ix.term fs (k + 1)) oa va oc vc _ (HSO.out.below hb2) HSV.out (by omega)).mono ?_); rintro e w3 ⟨v3, rfl, hown3, hb3⟩; have s3 := hb3.size))
        | (go_at_call 13; ((with_reducible refine (CK.out _ hb).mono ?_); rintro e w2 ⟨v2, rfl, hown2, hb2⟩; obtain ⟨va, vc, rfl, hsv⟩ := Ix.own_sla hown2; have HSV := Lib.hid hsv; clear hsv hown2; have s2 := hb2.size)))
      go_roundw
      case rel => exact ⟨k + 1, by omega, by go_num, by rw [HT.out]; exact Ix.own_lower hown3 (by omega), Tx.step (Tx.step hb hb2) hb3⟩
      case measure => simp [intOf]; omega
    · obtain rfl : k = 4 := by omega
      have hl2 := Ix.pick_len (p := Ix.begB 53) (codes := [97]) HM.out
      have HT := Lib.hid (Ix.terms_zero fs)
      clear hlt hk
      go_wp2_with (first
        | (go_at_call 41; ((with_reducible refine (r20_joined_c (Ix.termsTo fs 4) (Ix.pick (Ix.begB 53) [97] fs) oa va oc vc _ (HSO.out.below hb2) HSV.out (by omega)).mono ?_); rintro e w3 ⟨v3, rfl, hown3, hb3⟩; have s3 := hb3.size))
        | (go_at_call 44; ((with_reducible refine (CB.out _ hb).mono ?_); rintro e w2 ⟨v2, rfl, hown2, hb2⟩; obtain ⟨va, vc, rfl, hsv⟩ := Ix.own_sla hown2; have HSV := Lib.hid hsv; clear hsv hown2; have s2 := hb2.size)))
      go_ret
      exact ⟨_, rfl, by rw [HT.out]; exact Ix.own_lower hown3 (by omega), Tx.step (Tx.step (Tx.step hB hb) hb2) hb3⟩

set_option maxHeartbeats 1600000 in
theorem r20_Terms_x (fs : List Rc.Fl) (a : Option Addr) (c : Nat) (id ver kind : Int) (lang : ByteArray) (x : Int) (hx : x < 0 ∨ 4 < x) (w : World) :
    Calls Tryz.prog 13 #[.agg #[.int .i64 id, .int .i64 ver, .int .i64 kind, .string lang, .slice a fs.length c], .int .i64 x] w fun e w' => ∃ v, e = .returned v ∧ Ix.OwnT w' w.heap.size v [] ∧ Below w.heap.size w w' := by
  obtain ⟨W, hW⟩ : ∃ W, w.alloc (.cells #[.int .i64 id, .int .i64 ver, .int .i64 kind, .string lang, .slice a fs.length c] 24) = W := ⟨_, rfl⟩
  have hB : Below w.heap.size w W := by rw [← hW]; exact Tx.newb _ _
  have c0 : W.cell? ⟨w.heap.size, 0, none⟩ = some (.int .i64 id) := by rw [← hW]; simp
  have c1 : W.cell? ⟨w.heap.size, 1, none⟩ = some (.int .i64 ver) := by rw [← hW]; simp
  have c2 : W.cell? ⟨w.heap.size, 2, none⟩ = some (.int .i64 kind) := by rw [← hW]; simp
  have c3 : W.cell? ⟨w.heap.size, 3, none⟩ = some (.string lang) := by rw [← hW]; simp
  have c4 : W.cell? ⟨w.heap.size, 4, none⟩ = some (.slice a fs.length c) := by rw [← hW]; simp
  have t0 : (x == 0) = false := by simp; omega
  have t1 : (x == 1) = false := by simp; omega
  have t2 : (x == 2) = false := by simp; omega
  have t3 : (x == 3) = false := by simp; omega
  have t4 : (x == 4) = false := by simp; omega
  clear hx
  go_enter Tryz.func13, Tryz.ntmps13
  go_wp2
  go_ret
  exact ⟨_, rfl, World.ownsRow_nil _ _ _ _, hB⟩

theorem r20_Terms_c (fs : List Rc.Fl) (a : Option Addr) (c : Nat) (id ver kind : Int) (lang : ByteArray) (x : Int) (w : World) (h : Rc.FldA w a c fs) (hM : Ix.Mod fs) :
    Calls Tryz.prog 13 #[.agg #[.int .i64 id, .int .i64 ver, .int .i64 kind, .string lang, .slice a fs.length c], .int .i64 x] w fun e w' => ∃ v, e = .returned v ∧ Ix.OwnT w' w.heap.size v (Ix.terms fs x) ∧ Below w.heap.size w w' := by
  by_cases h0 : x = 0
  · subst h0
    exact r20_Terms_0 fs a c id ver kind lang w h hM
  · unfold Ix.terms
    rw [if_neg h0]
    by_cases h4 : 1 ≤ x ∧ x ≤ 4
    · rw [if_pos h4]
      obtain ⟨k, rfl⟩ : ∃ k : Nat, x = k := ⟨x.toNat, by omega⟩
      exact r20_Terms_14 fs a c id ver kind lang k (by omega) (by omega) w h hM
    · rw [if_neg h4]
      exact r20_Terms_x fs a c id ver kind lang x (by omega) w
end Go.Proofs.YtcjalpegffldaaaGreatDoor
