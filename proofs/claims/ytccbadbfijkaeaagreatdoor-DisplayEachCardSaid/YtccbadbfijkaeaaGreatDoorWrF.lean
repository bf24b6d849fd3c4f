/- The program's Wrap: what the call returns. -/
import Derived.Test.YtccbadbfijkaeaaGreatDoorWrE
import Derived.Maps.AppendAt
namespace Go.Proofs.YtccbadbfijkaeaaGreatDoor
open Go.RowKit
set_option maxRecDepth 100000

set_option maxHeartbeats 3200000 in
theorem Wrap_c (s : ByteArray) (n : Int) (w : World) (hs : s.size ≤ 1000000) (hv : Tx.valid s.data.toList = true) (hn2 : n ≤ 9223372036854775807) (hG : G w) :
    Calls Tryz.prog 23 #[.string s, .int .i64 n] w fun e w' => ∃ va vc, e = .returned (.slice va ((Wr.wrap n s.data.toList).map Wr.mk).length vc) ∧ SLA w' va vc ((Wr.wrap n s.data.toList).map Wr.mk) ∧ Below w.heap.size w w' := by
  by_cases hn : n < 1
  · have hW : Wr.wrap n s.data.toList = [] := by unfold Wr.wrap; rw [if_pos hn]
    have HW := Lib.hid hW; clear hW
    go_enter Tryz.func23, Tryz.ntmps23
    go_wp2
    go_ret
    rw [HW.out]
    exact ⟨none, 0, rfl, ⟨Nat.le_refl _, by unfold maxLen; omega, 0, 0, fun h => absurd rfl h, fun j x hx => by simp at hx⟩, Below.refl _ _⟩
  · obtain ⟨i0, hi0, hz0, hz1, hz2⟩ := info_parts info_str
    have hn1 : 1 ≤ n.toNat := by omega
    have hmid := fun (ps rest : List Rc.By) h => Wr.mid_of hn1 hv (ps := ps) (rest := rest) h
    have hsv := Wr.split_valid s hv
    have hwo := Wr.words_of n.toNat s
    have hwe := fun st h => Wr.wrap_eq (s := s.data.toList) hn (st := st) h
    have hL : s.data.toList.length ≤ 1000000 := by rw [← Lib.size_eq]; exact hs
    have HM := Lib.hid hmid; clear hmid
    have HSV := Lib.hid hsv; clear hsv
    have HWO := Lib.hid hwo; clear hwo
    have HWE := Lib.hid hwe; clear hwe hv
    go_enter Tryz.func23, Tryz.ntmps23
    go_wp2_with (go_at_call 53; refine (Split_c s _ hs hG).mono ?_; rintro e w1 ⟨wa, wc, xs, rfl, hsl, hxs, hxl, hb1⟩; have HXS := Lib.hid hxs; clear hxs)
    obtain ⟨ws, hws⟩ : ∃ ws, xs.map (·.data.toList) = ws := ⟨_, rfl⟩
    have hall : Wr.wordsR n.toNat [] s.data.toList = ws.flatMap (Wr.pieces n.toNat) := by rw [← HWO.out, ← HXS.out, hws]
    have hwv : ∀ x ∈ xs, Tx.valid x.data.toList = true ∧ x.data.toList.length ≤ 1000000 := fun x hx => by
      have := HSV.out x (by rw [← HXS.out]; exact hx)
      exact ⟨this.1, by omega⟩
    have HWS := Lib.hid hws; clear hws
    have HAL := Lib.hid hall; clear hall
    have HWV := Lib.hid hwv; clear hwv HXS HSV HWO
    go_loopw [5, 6, 8, 10, 16, 26] (fun v l _ _ i _ wr => ∃ (k : Nat) (out : List Rc.By) (line : Rc.By), k ≤ xs.length ∧ i = .int .i64 k ∧ l = .string ⟨line.toArray⟩ ∧ Hid (((ws.take k).flatMap (Wr.pieces n.toNat)).foldl (Wr.wstep n.toNat) ([], []) = (out, line)) ∧ wr.ownsRow w1.heap.size 9 1 v out.length (out.map fun x => Value.string (Wr.mk x)) ∧ Below w1.heap.size w1 wr) (fun _ _ _ _ i _ _ => xs.length - (intOf i).toNat)
    case atStart => exact ⟨0, [], [], Nat.zero_le _, rfl, rfl, Lib.hid rfl, World.ownsRow_nil _ _ _ _, Below.refl _ _⟩
    case round =>
      obtain ⟨k, out, line, hk, rfl, rfl, hF, hown, hb⟩ := hrel
      have hbs := hb.size
      have hb1s := hb1.size
      by_cases hlt : k < xs.length
      · obtain ⟨x, hx⟩ : ∃ x, xs[k]? = some x := ⟨_, List.getElem?_eq_getElem hlt⟩
        obtain ⟨b, o, rfl, hbl, c0⟩ := hsl.get hx
        replace c0 := cell_later hb c0
        have hxv := HWV.out x (List.mem_of_getElem? hx)
        have hwk : ws[k]? = some x.data.toList := by rw [← HWS.out, List.getElem?_map, hx]; rfl
        have hfl := Wr.flat_take (n := n.toNat) hwk
        by_cases hx0 : x.data.toList = []
        · rw [hx0, Wr.pieces_nil, List.append_nil] at hfl
          have HF2 : Hid (((ws.take (k + 1)).flatMap (Wr.pieces n.toNat)).foldl (Wr.wstep n.toNat) ([], []) = (out, line)) := Lib.hid (by rw [hfl]; exact hF.out)
          have hxe : x.toList.isEmpty = true := by rw [Lib.toList_data, hx0]; rfl
          clear hfl hwk hxv hx0
          go_wp2
          go_roundw
          case rel => exact ⟨k + 1, out, line, by omega, by go_num, rfl, HF2, hown, hb⟩
          case measure => simp [intOf]; omega
        · have hrest := Wr.flat_rest n.toNat ws k
          rw [Wr.drop_at hwk, List.flatMap_cons, ← HAL.out] at hrest
          obtain ⟨u, hu⟩ : ∃ u, x.data.toList = u := ⟨_, rfl⟩
          have hxm : x = ⟨u.toArray⟩ := by rw [← hu]
          rw [hu] at hfl hxv hx0 hrest
          obtain ⟨Q, hQ⟩ : ∃ Q, (ws.drop (k + 1)).flatMap (Wr.pieces n.toNat) = Q := ⟨_, rfl⟩
          obtain ⟨P0, hP0⟩ : ∃ P0, (ws.take k).flatMap (Wr.pieces n.toNat) = P0 := ⟨_, rfl⟩
          obtain ⟨P, hP⟩ : ∃ P, Wr.pieces n.toNat u = P := ⟨_, rfl⟩
          rw [hQ, hP0, hP] at hrest
          rw [hP0, hP] at hfl
          have hF0 := hF.out
          rw [hP0] at hF0
          have hue : u.isEmpty = false := by simpa using hx0
          have HF0 := Lib.hid hF0; clear hF0 hF
          have HFL := Lib.hid hfl; clear hfl
          have HRE := Lib.hid hrest; clear hrest
          have HPP := Lib.hid hP; clear hP
          have HXV := Lib.hid hxv
          have hul := hxv.2
          have HX0 := Lib.hid hx0
          clear hu hwk hxv hx0 hQ hP0 hx
          subst hxm
          go_wp2_with (go_at_call 54; refine (pieces_c u n _ hul HXV.out.1 HX0.out (by omega) hn2).mono ?_; rintro e w3 ⟨pb, pc, rfl, hrow, hb3⟩; rw [show Wr.pieces n.toNat u = P from HPP.out] at hrow ⊢)
          have hb3w := hb.trans (hb3.mono hbs)
          have hPlen : P.length ≤ u.length := by
            have h1 := Wr.count_le (Wr.pieces n.toNat u) (fun p hp => (Wr.pieces_good hn1 u.length u (Nat.le_refl _) HXV.out.1 p hp).1)
            rw [Wr.pieces_flat hn1 u.length u (Nat.le_refl _), HPP.out] at h1
            exact h1
          have hpb := hrow.lt pb rfl
          go_loopw [5, 6, 10, 26] (fun v l _ j wr2 => ∃ (m : Nat) (out : List Rc.By) (line : Rc.By), m ≤ P.length ∧ j = .int .i64 m ∧ l = .string ⟨line.toArray⟩ ∧ Hid ((P0 ++ P.take m).foldl (Wr.wstep n.toNat) ([], []) = (out, line)) ∧ wr2.ownsRow w1.heap.size 9 1 v out.length (out.map fun x => Value.string (Wr.mk x)) ∧ Hid (wr2.ownsRow wr.heap.size 9 1 (.slice (some ⟨pb, 0, none⟩) P.length pc) P.length (P.map fun x => Value.string ⟨x.toArray⟩)) ∧ Hid (v.ownBlock ≠ some pb) ∧ Below w1.heap.size w1 wr2) (fun _ _ _ j _ => P.length - (intOf j).toNat)
          case atStart => exact ⟨0, out, line, Nat.zero_le _, rfl, rfl, Lib.hid (by rw [List.take_zero, List.append_nil]; exact HF0.out), own_below hown hb3, Lib.hid hrow, Lib.hid (fun e => by have := (hown.lt pb e).2; omega), hb3w⟩
          case round =>
            clear hown hrow hpb
            obtain ⟨m, out, line, hm, rfl, rfl, hFm, hown, hrow, hnb, hb4⟩ := hrel
            have hb4s := hb4.size
            by_cases hml : m < P.length
            · obtain ⟨p, hp⟩ : ∃ p, P[m]? = some p := ⟨_, List.getElem?_eq_getElem hml⟩
              have d0 : _ = some (Value.string ⟨p.toArray⟩) := (hrow.out.cellAt m (by omega)).trans (by rw [List.getElem?_map, hp]; rfl)
              have hsplit : Wr.wordsR n.toNat [] s.data.toList = (P0 ++ P.take m) ++ (P.drop m ++ Q) := by rw [HRE.out, ← List.append_assoc (P0 ++ P.take m), List.append_assoc P0, List.take_append_drop, List.append_assoc]
              obtain ⟨hmd, hpc⟩ := HM.out _ _ hsplit
              rw [hFm.out] at hmd
              have hpp := hpc p (by rw [Wr.drop_at hp]; simp)
              have ho := hmd.o
              have hll := hmd.l
              simp only at ho hll
              have hg := hmd.g.c
              simp only at hg
              have hstep : (P0 ++ P.take (m + 1)).foldl (Wr.wstep n.toNat) ([], []) = Wr.wstep n.toNat (out, line) p := by rw [Wr.take_at hp, ← List.append_assoc, List.foldl_append, hFm.out]; rfl
              have hpr := hpp.r
              have hpl9 : p.length ≤ 1000000 := by
                have h1 := List.mem_of_getElem? hp
                rw [← HPP.out] at h1
                have := (Wr.pieces_good hn1 u.length u (Nat.le_refl _) HXV.out.1 p h1).2.2.2
                omega
              have hrp := Wr.runes_le p.length p (Nat.le_refl _)
              have hrl := Wr.runes_le line.length line (Nat.le_refl _)
              have HPV := Lib.hid hpp.v
              clear hmd hpc hsplit hp hpp HM HWE
              unfold Wr.wstep at hstep
              simp only at hstep
              by_cases hl0 : line = []
              · subst hl0
                rw [if_pos rfl] at hstep
                have HST := Lib.hid hstep; clear hstep hg
                go_wp2
                go_roundw
                case rel => exact ⟨m + 1, out, p, by omega, by go_num, rfl, HST, hown, hrow, hnb, hb4⟩
                case measure => simp [intOf]; omega
              · rw [if_neg hl0] at hstep
                have hle : line.isEmpty = false := by simpa using hl0
                have HLV := Lib.hid (hg.resolve_left hl0).v
                clear hg hl0
                by_cases hfit : Wr.runes line + 1 + Wr.runes p ≤ n.toNat
                · rw [if_pos hfit] at hstep
                  have hfi : (Wr.runes line : Int) + 1 + (Wr.runes p : Int) ≤ n := by omega
                  have HST := Lib.hid hstep; clear hstep hfit
                  obtain ⟨a1, -⟩ := Tx.adds_ok Tryz.prog [⟨p.toArray⟩] ⟨#[32]⟩ (by simp only [List.map_cons, List.map_nil, List.sum_cons, List.sum_nil, Tx.size_mk]; simp; omega)
                  obtain ⟨a2, -⟩ := Tx.adds_ok Tryz.prog [⟨#[32]⟩ ++ ⟨p.toArray⟩] ⟨line.toArray⟩ (by simp only [List.map_cons, List.map_nil, List.sum_cons, List.sum_nil, Tx.size_mk, ByteArray.size_append]; simp; omega)
                  go_wp2_with (first
                    | (go_at_call 55; refine (text_Runes_c ⟨line.toArray⟩ _ (by rw [Tx.size_mk]; omega) HLV.out).mono ?_; rintro e w6 ⟨rfl, hb6⟩; rw [show (⟨line.toArray⟩ : ByteArray).data.toList = line from rfl])
                    | (go_at_call 55; refine (text_Runes_c ⟨p.toArray⟩ _ (by rw [Tx.size_mk]; omega) HPV.out).mono ?_; rintro e w7 ⟨rfl, hb7⟩; rw [show (⟨p.toArray⟩ : ByteArray).data.toList = p from rfl]))
                  have hb67 := Tx.step hb6 hb7
                  go_roundw
                  case rel => exact ⟨m + 1, out, line ++ [32] ++ p, by omega, by go_num, by simp [Tx.bcat], HST, own_below hown hb67, Lib.hid (own_below hrow.out hb67), hnb, hb4.trans (hb67.mono hb4s)⟩
                  case measure => simp [intOf]; omega
                · rw [if_neg hfit] at hstep
                  have hfi : ¬ (Wr.runes line : Int) + 1 + (Wr.runes p : Int) ≤ n := by omega
                  have HST := Lib.hid hstep; clear hstep hfit
                  go_wp2_with (first
                    | (go_at_call 55; refine (text_Runes_c ⟨line.toArray⟩ _ (by rw [Tx.size_mk]; omega) HLV.out).mono ?_; rintro e w6 ⟨rfl, hb6⟩; rw [show (⟨line.toArray⟩ : ByteArray).data.toList = line from rfl])
                    | (go_at_call 55; refine (text_Runes_c ⟨p.toArray⟩ _ (by rw [Tx.size_mk]; omega) HPV.out).mono ?_; rintro e w7 ⟨rfl, hb7⟩; rw [show (⟨p.toArray⟩ : ByteArray).data.toList = p from rfl]; have hb67 := Tx.step hb6 hb7)
                    | (at_builtin; refine wpList_append_own_at _ rfl _ _ 29 rfl w1.heap.size 9 i0 (.string ⟨#[]⟩) 1 16 Tryz.underlying29 hi0 hz0 hz1 hz2 rfl (by decide) _ out.length _ rfl ((own_below hown hb67).alloc _) ⟨_, 0, none⟩ 1 1 [.string ⟨line.toArray⟩] rfl rfl (Tx.cell_one_at _ _ (by first | rfl | simp) _ _) (by simp [Value.oneCell']) (by unfold maxLen; omega) (by omega) (by have := hb67.size; simp; omega) ?_; intro v' w8 hown8 hg8 hnil8 hloc8))
                  have hb7 := hb4.trans (hb67.mono hb4s)
                  have hrow7 := own_below hrow.out hb67
                  have hlt7 := (hrow7.lt pb rfl).2
                  have hb8 : Below w1.heap.size w1 w8 := (hb7.alloc hb7.size _).grown hg8 (by have := hb7.size; simp; omega) (fun j hj => (hown.lt j hj).1)
                  go_roundw
                  case rel => exact ⟨m + 1, out ++ [line], p, by omega, by go_num, rfl, HST, by simpa [Wr.mk] using hown8, Lib.hid ((hrow7.alloc _).kept hg8 (.inr (fun e => hnb.out e.symm))), Lib.hid (fun e => by rcases hloc8 with h8 | h8 <;> rw [h8] at e; exact hnb.out e; injection e with e; simp at e; omega), hb8⟩
                  case measure => simp [intOf]; omega
            · obtain rfl : m = P.length := by omega
              have HF2 : Hid (((ws.take (k + 1)).flatMap (Wr.pieces n.toNat)).foldl (Wr.wstep n.toNat) ([], []) = (out, line)) := Lib.hid (by rw [HFL.out]; have := hFm.out; rw [Rc.take_all] at this; exact this)
              go_wp2
              go_roundw
              case rel => exact ⟨k + 1, out, line, by omega, by go_num, rfl, HF2, hown, hb4⟩
              case measure => simp [intOf]; omega
      · obtain rfl : k = xs.length := by omega
        have hF2 : (Wr.wordsR n.toNat [] s.data.toList).foldl (Wr.wstep n.toNat) ([], []) = (out, line) := by
          rw [HAL.out]
          have := hF.out
          rw [List.take_of_length_le (by rw [← HWS.out, List.length_map]; omega)] at this
          exact this
        have hwr := HWE.out _ hF2
        simp only at hwr
        obtain ⟨hmd, _⟩ := HM.out (Wr.wordsR n.toNat [] s.data.toList) [] (by simp)
        rw [hF2] at hmd
        have ho := hmd.o
        simp only at ho
        have hbz := hb1.trans (hb.mono hb1.size)
        by_cases hl0 : line = []
        · subst hl0
          rw [if_pos rfl, List.append_nil] at hwr
          have HWR := Lib.hid hwr; clear hwr hF2 hmd
          obtain ⟨va, vc, rfl, hsl2⟩ := SLA.of_own (xs := out.map Wr.mk) hown (by simp)
          go_wp2
          go_ret
          rw [HWR.out]
          exact ⟨va, vc, rfl, hsl2, hbz⟩
        · rw [if_neg hl0] at hwr
          have hle : (!line.isEmpty) = true := by simpa using hl0
          have HWR := Lib.hid hwr; clear hwr hF2 hmd hl0
          go_wp2_with (at_builtin; refine wpList_append_own _ rfl _ _ 29 rfl w1.heap.size 9 i0 (.string ⟨#[]⟩) 1 16 Tryz.underlying29 hi0 hz0 hz1 hz2 rfl (by decide) _ out.length _ rfl (hown.alloc _) ⟨_, 0, none⟩ 1 1 [.string ⟨line.toArray⟩] rfl rfl (Tx.cell_one_at _ _ (by first | rfl | simp) _ _) (by simp [Value.oneCell']) (by unfold maxLen; omega) (by omega) (by simp; omega) ?_; intro v' w5 hown5 hg5 hnil5)
          have hb5 : Below w.heap.size w w5 := (hbz.alloc hbz.size _).grown hg5 (by simp; omega) (fun j hj => by have := (hown.lt j hj).1; omega)
          obtain ⟨va, vc, rfl, hsl2⟩ := SLA.of_own (xs := (out ++ [line]).map Wr.mk) hown5 (by simp)
          go_ret
          rw [HWR.out]
          exact ⟨va, vc, rfl, hsl2, hb5⟩
end Go.Proofs.YtccbadbfijkaeaaGreatDoor
