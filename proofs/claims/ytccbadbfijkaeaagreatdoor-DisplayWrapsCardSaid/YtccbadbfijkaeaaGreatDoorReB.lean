/- The reference's Wrap: what the call returns. -/
import Derived.Test.YtccbadbfijkaeaaGreatDoorReA
import Derived.Maps.AppendAt
import Derived.Deep.RegionHeld3
import Derived.StillTailTactics
import Derived.Laws.OwnMore
import Derived.OneCell
import Derived.Lib.SmallJoins
namespace Go.Proofs.YtccbadbfijkaeaaGreatDoor
open Go.RowKit
set_option maxRecDepth 100000

namespace Wr
open Rc
theorem wstep_ne {n : Nat} (st : List By × By) {p : By} (hp : p ≠ []) : (wstep n st p).2 ≠ [] := by
  unfold wstep
  split
  · exact hp
  · split
    · simp
    · exact hp
theorem foldw_ne {n : Nat} {ps : List By} (h : ps ≠ []) (hp : ∀ p ∈ ps, p ≠ []) (st : List By × By) : (ps.foldl (wstep n) st).2 ≠ [] := by
  obtain ⟨qs, q, rfl⟩ : ∃ qs q, ps = qs ++ [q] := ⟨ps.dropLast, ps.getLast h, (List.dropLast_concat_getLast h).symm⟩
  rw [List.foldl_append]
  exact wstep_ne _ (hp q (by simp))
/-- Behind the first piece there is a last line; how long it can be. -/
theorem ref_mid {n : Nat} (hn : 1 ≤ n) {s : By} (hv : Tx.valid s = true) {ps rest : List By} (h : wordsR n [] s = ps ++ rest) (hne : ps ≠ []) : ∃ (O : List By) (l : By), ps.foldl (rstep n) [] = O ++ [l] ∧ l.length ≤ 2 * s.length ∧ O.length ≤ s.length := by
  obtain ⟨hm, hp⟩ := mid_of hn hv h
  have hps : ∀ p ∈ ps, Pc n p := fun p h => hp p (by simp [h])
  have h1 := rfold_eq ps ([], []) ⟨fun l hl => (by cases hl), .inl rfl⟩ hps (fun _ => rfl)
  have h2 := foldw_ne (n := n) hne (fun p h => (hps p h).ne) ([], [])
  refine ⟨(ps.foldl (wstep n) ([], [])).1, (ps.foldl (wstep n) ([], [])).2, ?_, hm.l, hm.o⟩
  have e : wfin (([], []) : List By × By) = [] := rfl
  rw [e] at h1
  rw [h1]
  unfold wfin
  rw [if_neg h2]
theorem rstep_last (n : Nat) (O : List By) (l p : By) : rstep n (O ++ [l]) p = if runes (l ++ [32] ++ p) ≤ n then O ++ [l ++ [32] ++ p] else O ++ [l] ++ [p] := by
  unfold rstep
  rw [List.getLast?_concat]
  simp only
  rw [List.dropLast_concat]
theorem cat3 (a b : By) : (⟨a.toArray⟩ : ByteArray) ++ ⟨#[32]⟩ ++ ⟨b.toArray⟩ = ⟨(a ++ [32] ++ b).toArray⟩ := by
  rw [show (⟨#[32]⟩ : ByteArray) = ⟨[32].toArray⟩ from rfl, Tx.bcat, Tx.bcat]
theorem mem_len : ∀ {L : List By} {x : By}, x ∈ L → x.length ≤ L.flatten.length
  | y :: L, x, h => by
    rw [List.flatten_cons, List.length_append]
    rcases List.mem_cons.1 h with rfl | h
    · omega
    · have := mem_len h
      omega
end Wr

theorem r01_Runes3_c (l p : List UInt8) (w : World) (hl : l.length ≤ 2000000) (hp : p.length ≤ 1000000) :
    Calls Tryz.prog 25 #[.string ((⟨l.toArray⟩ : ByteArray) ++ (⟨#[32]⟩ : ByteArray) ++ (⟨p.toArray⟩ : ByteArray))] w fun e w' => e = .returned (.int .i64 (Wr.runes (l ++ [32] ++ p))) ∧ Below w.heap.size w w' := by
  rw [Wr.cat3]
  exact r01_Runes_c ⟨(l ++ [32] ++ p).toArray⟩ w (by simp only [Tx.size_mk, List.length_append, List.length_cons, List.length_nil]; omega)

set_option maxHeartbeats 3200000 in
theorem r25_Wrap_c (s : ByteArray) (n : Int) (w : World) (hs : s.size ≤ 1000000) (hv : Tx.valid s.data.toList = true) (hn2 : n ≤ 9223372036854775807) :
    Calls Tryz.prog 24 #[.string s, .int .i64 n] w fun e w' => ∃ va vc, e = .returned (.slice va ((Wr.wrap n s.data.toList).map Wr.mk).length vc) ∧ SLA w' va vc ((Wr.wrap n s.data.toList).map Wr.mk) ∧ Below w.heap.size w w' := by
  by_cases hn : n < 1
  · have hW : Wr.wrap n s.data.toList = [] := by unfold Wr.wrap; rw [if_pos hn]
    have HW := Lib.hid hW; clear hW
    go_enter Tryz.func24, Tryz.ntmps24
    go_wp2
    go_ret
    rw [HW.out]
    exact ⟨some ⟨w.heap.size, 0, none⟩, 0, rfl, ⟨Nat.le_refl _, by unfold maxLen; omega, w.heap.size, 0, fun _ => ⟨rfl, by simp⟩, fun j x hx => by simp at hx⟩, Tx.newb _ _⟩
  · obtain ⟨i0, hi0, hz0, hz1, hz2⟩ := info_parts info_str
    have hn1 : 1 ≤ n.toNat := by omega
    have hL : s.data.toList.length ≤ 1000000 := by rw [← Lib.size_eq]; exact hs
    obtain ⟨P, hP⟩ : ∃ P, Wr.wordsR n.toNat [] s.data.toList = P := ⟨_, rfl⟩
    have href := Wr.wrap_ref hn hv
    have hmid := fun (ps rest : List Rc.By) h hne => Wr.ref_mid hn1 hv (ps := ps) (rest := rest) h hne
    have hgood := (Wr.wordsR_good hn1 s.data.toList [] (by simpa using hv) rfl).1
    have hplen : ∀ p ∈ P, p.length ≤ 1000000 := fun p hp => by
      have h1 := congrArg List.length (Wr.wordsR_good hn1 s.data.toList [] (by simpa using hv) rfl).2
      have h2 := Wr.mem_len hp
      rw [hP, List.nil_append, Wr.solid_flat P (by rw [← hP]; exact hgood)] at h1
      have h3 := Wr.solid_le s.data.toList
      omega
    rw [hP] at href
    simp only [hP] at hmid
    have HREF := Lib.hid href; clear href
    have HM := Lib.hid hmid; clear hmid
    have HPL := Lib.hid hplen; clear hplen
    have HP := Lib.hid hP; clear hP hgood hv
    have HL := Lib.hid hL; clear hL
    go_enter Tryz.func24, Tryz.ntmps24
    go_wp2_with (go_at_call 56; refine (r25_Words_c s n _ hs (by omega) hn2).mono ?_; rintro e w1 ⟨wb, wc, rfl, hrow, hPl9, hb1⟩; rw [HP.out] at hrow hPl9 ⊢)
    have hbw1 : Below w.heap.size w w1 := (Tx.newb w _).trans (hb1.mono (by simp))
    have hwb : w.heap.size < wb := by have := (hrow.lt wb rfl).1; simp at this; omega
    go_loopw [5, 7, 8] (fun v i _ wr => ∃ (k : Nat) (out : List Rc.By), k ≤ P.length ∧ i = .int .i64 k ∧ Hid ((P.take k).foldl (Wr.rstep n.toNat) [] = out) ∧ wr.ownsRow w.heap.size 9 1 v out.length (out.map fun x => Value.string (Wr.mk x)) ∧ Hid (wr.ownsRow w.heap.size 9 1 (.slice (some ⟨wb, 0, none⟩) P.length wc) P.length (P.map fun x => Value.string (Wr.mk x))) ∧ Hid (v.ownBlock ≠ some wb) ∧ Hid (v ≠ .slice none 0 0) ∧ Below w.heap.size w wr) (fun _ i _ _ => P.length - (intOf i).toNat)
    case atStart =>
      refine ⟨0, [], Nat.zero_le _, rfl, Lib.hid rfl, own_below (World.ownsRow_lit (base := w.heap.size) (e := 9) (size := 1) w #[] 0 (by simp) (by unfold maxLen; omega) rfl) hb1, Lib.hid (Go.Joins.ownsRow_le hrow (by simp)), Lib.hid (fun e => by simp [Value.ownBlock] at e; omega), Lib.hid (by simp), hbw1⟩
    case round =>
      clear hrow hbw1
      obtain ⟨k, out, hk, rfl, hF, hown, hrow, hnb, hnn, hb⟩ := hrel
      have hbs := hb.size
      rcases hown.2 with ⟨h0, _⟩ | ⟨ob, cap, cur, rfl, _⟩
      · exact absurd h0 hnn.out
      by_cases hlt : k < P.length
      · obtain ⟨p, hp⟩ : ∃ p, P[k]? = some p := ⟨_, List.getElem?_eq_getElem hlt⟩
        have d0 : wr.cell? ⟨wb, k, none⟩ = some (Value.string ⟨p.toArray⟩) := (hrow.out.cellAt k (by omega)).trans (by rw [List.getElem?_map, hp]; rfl)
        have hpl := HPL.out p (List.mem_of_getElem? hp)
        have hst : (P.take (k + 1)).foldl (Wr.rstep n.toNat) [] = Wr.rstep n.toNat out p := by rw [Wr.take_at hp, List.foldl_append, hF.out]; rfl
        by_cases hk0 : k = 0
        · have hout : out = [] := by have := hF.out; rw [hk0] at this; simpa using this.symm
          subst hout
          have HST : Hid ((P.take (k + 1)).foldl (Wr.rstep n.toNat) [] = [p]) := Lib.hid hst
          have hkz : ¬ (0 : Int) < (k : Int) := by omega
          have hkn : ¬ 0 < k := by omega
          have hkd : decide (0 < k) = false := decide_eq_false hkn
          clear hst hp hF hk0
          go_wp2
          go_quiet (fail)
          have hbq : Below wr.heap.size wr (wr.drewN nq) := Tx.below_drewN (Below.refl _ _) nq
          generalize wr.drewN nq = W2 at hbq ⊢
          have hown2 := own_below hown hbq
          have hrow2 := own_below hrow.out hbq
          have hb2 := hb.trans (hbq.mono hbs)
          replace d0 := cell_later hbq d0
          clear hbq
          go_wp2_with (at_builtin; refine wpList_append_own_at _ rfl _ _ 29 rfl w.heap.size 9 i0 (.string ⟨#[]⟩) 1 16 Tryz.underlying29 hi0 hz0 hz1 hz2 rfl (by decide) _ 0 _ rfl (hown2.alloc _) ⟨_, 0, none⟩ 1 1 [.string ⟨p.toArray⟩] rfl rfl (Tx.cell_one_at _ _ (by first | rfl | simp) _ _) (by simp [Value.oneCell']) (by unfold maxLen; omega) (by omega) (by have := hb2.size; simp; omega) ?_; intro v' w8 hown8 hg8 hnil8 hloc8)
          go_roundw
          case rel => exact ⟨k + 1, [p], by omega, by go_num, HST, by simpa [Wr.mk] using hown8, Lib.hid ((hrow2.alloc _).kept hg8 (.inr (fun e => hnb.out e.symm))), Lib.hid (fun e => by rcases hloc8 with h8 | h8 <;> rw [h8] at e; exact hnb.out e; injection e with e; have := (hrow2.lt wb rfl).2; simp at e; omega), Lib.hid (fun e => by have := (hnil8.1 e).2; omega), (hb2.alloc hb2.size _).grown hg8 (by have := hb2.size; simp; omega) (fun j hj => (hown.lt j hj).1)⟩
          case measure => simp [intOf]; omega
        · obtain ⟨O, l, hO, hll, hOl⟩ := HM.out (P.take k) (P.drop k) (by simp) (by
            intro h0
            have := congrArg List.length h0
            rw [List.length_take, List.length_nil] at this
            omega)
          rw [hF.out] at hO
          subst hO
          rw [Wr.rstep_last] at hst
          have hL9 := HL.out
          have hll9 : l.length ≤ 2000000 := by omega
          have hOl9 : O.length ≤ 1000000 := by omega
          clear hll hOl hL9 hF
          have d1 : wr.cell? ⟨ob, O.length, none⟩ = some (Value.string ⟨l.toArray⟩) := (hown.cellAt O.length (by simp)).trans (by rw [List.getElem?_map]; simp)
          have hkz : (0 : Int) < (k : Int) := by omega
          have hkn : 0 < k := by omega
          have hkd : decide (0 < k) = true := decide_eq_true hkn
          have q0 : (O ++ [l]).length = O.length + 1 := by simp
          rw [q0] at hown hnb ⊢
          have q1 : IntKind.i64.wrap ((O.length : Int) + 1 - 1) = (O.length : Int) := by rw [IntWalk.i64_in _ (by omega)]; omega
          have f1 : (O.length : Int) < (O.length : Int) + 1 := by omega
          have f2 : (k : Int) < (P.length : Int) := by omega
          obtain ⟨a1, -⟩ := Tx.adds_ok Tryz.prog [⟨#[32]⟩] ⟨l.toArray⟩ (by simp only [List.map_cons, List.map_nil, List.sum_cons, List.sum_nil, Tx.size_mk]; simp; omega)
          obtain ⟨a2, -⟩ := Tx.adds_ok Tryz.prog [⟨p.toArray⟩] (⟨l.toArray⟩ ++ ⟨#[32]⟩) (by simp only [List.map_cons, List.map_nil, List.sum_cons, List.sum_nil, Tx.size_mk, ByteArray.size_append]; simp; omega)
          obtain ⟨R, hR⟩ : ∃ R, Wr.runes (l ++ [32] ++ p) = R := ⟨_, rfl⟩
          rw [hR] at hst
          have HR := Lib.hid hR; clear hR
          have HST := Lib.hid hst; clear hst hp hk0 q0
          go_wp2
          go_region_held3 (fun w' => Below wr.heap.size wr w' ∧ w'.cell? ⟨ob, O.length, none⟩ = some (.string ⟨l.toArray⟩) ∧ w'.cell? ⟨wb, k, none⟩ = some (.string ⟨p.toArray⟩))
            (first
              | exact ⟨(Below.refl _ _).drew, d1, d0⟩
              | (go_split_ands; exact ⟨Tx.step (by assumption) hbc, cell_later hbc (by assumption), cell_later hbc (by assumption)⟩))
            (first
              | (go_at_call 25; refine (r01_Runes3_c l p _ hll9 hpl).mono ?_; rintro e w5 ⟨rfl, hbc⟩; rw [HR.out]))
          go_split_ands
          have hb5 : Below wr.heap.size wr w5 := by assumption
          have d5 : w5.cell? ⟨ob, O.length, none⟩ = some (.string ⟨l.toArray⟩) := by assumption
          have e5 : w5.cell? ⟨wb, k, none⟩ = some (.string ⟨p.toArray⟩) := by assumption
          clear d0 d1
          have hown5 := own_below hown hb5
          have hrow5 := own_below hrow.out hb5
          have hb6 := hb.trans (hb5.mono hbs)
          clear hown hrow hb
          have hst := HST.out
          by_cases hfit : (R : Int) ≤ n
          · rw [if_pos (by omega)] at hst
            have HS2 := Lib.hid hst; clear hst HST
            have hz5 : w5.frozen? ⟨ob, O.length, none⟩ = false := hown5.frozenAt O.length
            go_wp2
            go_still_tail 13, (by kernel_rfl)
            have hbq : Below w5.heap.size w5 w5.drew := (Below.refl _ _).drew
            change wpList _ _ _ _ _ w5.drew
            generalize w5.drew = w6 at hbq ⊢
            have hown6 := own_below hown5 hbq
            have hrow6 := own_below hrow5 hbq
            have hb7 := hb6.trans (hbq.mono hb6.size)
            have hz6 : w6.frozen? ⟨ob, O.length, none⟩ = false := hown6.frozenAt O.length
            have c6 := cell_later hbq d5
            clear hbq hown5 hrow5 hb6 hz5 d5 e5 hb5
            obtain ⟨hst7, hgr7⟩ := hown6.stored O.length (.string ((⟨l.toArray⟩ : ByteArray) ++ (⟨#[32]⟩ : ByteArray) ++ (⟨p.toArray⟩ : ByteArray)))
            have hnl : ((O ++ [l]).map fun x => Value.string (Wr.mk x)).set O.length (.string ((⟨l.toArray⟩ : ByteArray) ++ (⟨#[32]⟩ : ByteArray) ++ (⟨p.toArray⟩ : ByteArray))) = (O ++ [l ++ [32] ++ p]).map fun x => Value.string (Wr.mk x) := by
              rw [Wr.cat3]
              simp [Wr.mk]
            rw [hnl] at hst7
            have HST7 := Lib.hid hst7
            have HGR7 := Lib.hid hgr7
            clear hst7 hgr7 hnl
            have hoblt := (hown6.lt ob rfl)
            go_wp2
            go_roundw
            case rel => exact ⟨k + 1, O ++ [l ++ [32] ++ p], by omega, by go_num, HS2, by simpa using HST7.out, Lib.hid (ownsRow_setCell_other (a := ⟨ob, O.length, none⟩) hrow6 (fun e => hnb.out e.symm) _), hnb, Lib.hid (by simp), hb7.grown HGR7.out hb7.size (fun j hj => by cases hj; exact hoblt.1)⟩
            case measure => simp [intOf]; omega
          · rw [if_neg (by omega)] at hst
            have HS2 := Lib.hid hst; clear hst HST
            go_wp2_with (at_builtin; refine wpList_append_own_at _ rfl _ _ 29 rfl w.heap.size 9 i0 (.string ⟨#[]⟩) 1 16 Tryz.underlying29 hi0 hz0 hz1 hz2 rfl (by decide) _ (O.length + 1) _ rfl (hown5.alloc _) ⟨_, 0, none⟩ 1 1 [.string ⟨p.toArray⟩] rfl rfl (Tx.cell_one_at _ _ (by first | rfl | simp) _ _) (by simp [Value.oneCell']) (by unfold maxLen; omega) (by omega) (by have := hb6.size; simp; omega) ?_; intro v' w8 hown8 hg8 hnil8 hloc8)
            go_roundw
            case rel => exact ⟨k + 1, O ++ [l] ++ [p], by omega, by go_num, HS2, by simpa [Wr.mk] using hown8, Lib.hid ((hrow5.alloc _).kept hg8 (.inr (fun e => hnb.out e.symm))), Lib.hid (fun e => by rcases hloc8 with h8 | h8 <;> rw [h8] at e; exact hnb.out e; injection e with e; have := (hrow5.lt wb rfl).2; simp at e; omega), Lib.hid (fun e => by have := (hnil8.1 e).2; omega), (hb6.alloc hb6.size _).grown hg8 (by have := hb6.size; simp; omega) (fun j hj => (hown5.lt j hj).1)⟩
            case measure => simp [intOf]; omega
      · obtain rfl : k = P.length := by omega
        have hfin : Wr.wrap n s.data.toList = out := by
          have := hF.out
          rw [Rc.take_all, HREF.out] at this
          exact this
        have HF := Lib.hid hfin; clear hfin hF
        have hsl2 : SLA wr (some ⟨ob, 0, none⟩) cap (out.map Wr.mk) := by
          obtain ⟨va, vc, he, h⟩ := SLA.of_own (xs := out.map Wr.mk) hown (by simp)
          injection he with e1 e2 e3
          subst e1
          subst e3
          exact h
        go_wp2
        go_ret
        rw [HF.out]
        exact ⟨some ⟨ob, 0, none⟩, cap, congrArg (fun m => Ending.returned (.slice (some ⟨ob, 0, none⟩) m cap)) (by simp), hsl2, hb⟩
end Go.Proofs.YtccbadbfijkaeaaGreatDoor
