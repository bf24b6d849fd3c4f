/- The reference's Find: what the call returns. -/
import Derived.Test.YtogpghpgnpoioaaGreatDoorKs
import Derived.StillTailTactics
namespace Go.Proofs.YtogpghpgnpoioaaGreatDoor
open Go.RowKit
set_option maxRecDepth 100000

namespace Mt
def enc1 (n : Int) : List Value := [.int .i64 n]
theorem enc1_len (n : Int) : (enc1 n).length = 1 := rfl
theorem enc1_one (n : Int) : ∀ u ∈ enc1 n, u.oneCell' = true := by simp [enc1, Value.oneCell']
/-- Whether the thing at a place stands ahead of another one. -/
def tst (L : List (Int × Int)) (p : Nat) (z : Int × Int) : Bool := (L[p]?).any fun y => ltF y z
theorem tst_some {L : List (Int × Int)} {p : Nat} {y z : Int × Int} (h : L[p]? = some y) : tst L p z = ltF y z := by unfold tst; rw [h]; rfl
theorem tst_none {L : List (Int × Int)} {p : Nat} {z : Int × Int} (h : L.length ≤ p) : tst L p z = false := by unfold tst; rw [List.getElem?_eq_none h]; rfl
theorem tst_true {L : List (Int × Int)} {p : Nat} {z : Int × Int} (h : tst L p z = true) : ∃ y, L[p]? = some y ∧ ltF y z = true := by
  unfold tst at h
  cases hy : L[p]? with
  | none => rw [hy] at h; cases h
  | some y => rw [hy] at h; exact ⟨y, rfl, h⟩
theorem tst_false {L : List (Int × Int)} {p : Nat} {y z : Int × Int} (h : tst L p z = false) (hy : L[p]? = some y) : ltF y z = false := by rw [tst_some hy] at h; exact h
theorem own_cast {w : World} {B e size n n' : Nat} {v : Value} {xs ys : List Value} (h : Sq.OwnZ w B e size v n xs) (hn : n = n') (hx : xs = ys) : Sq.OwnZ w B e size v n' ys := by rw [← hn, ← hx]; exact h
theorem hits_ids {m : Rule} {l : List Rc.Rd} {r : Rc.Rd} {k : Nat} {x : Rc.Rd} (hn : (ids l).Nodup) (hx : l[k]? = some x) (sc : Int) : (x.id, sc) ∉ Cp.puts ltF (hitsF m (l.take k) r) := by
  intro h
  rw [Cp.puts_mem] at h
  unfold hitsF at h
  obtain ⟨y, hy, e⟩ := List.mem_map.1 h
  have hy2 := (List.mem_filter.1 hy).1
  obtain ⟨j, hj, ej⟩ := List.getElem_of_mem hy2
  rw [List.length_take] at hj
  rw [List.getElem_take] at ej
  have gj : l[j]? = some y := by rw [← ej]; exact List.getElem?_eq_getElem (by omega)
  have := ids_ne hn gj hx (by omega)
  injection e with e1 e2
  exact this e1
end Mt

set_option maxHeartbeats 6400000 in
theorem r15_Find_c (m : Mt.Rule) (ka : Option Addr) (kc : Nat) (l : List Rc.Rd) (la : Option Addr) (lc : Nat) (r : Rc.Rd) (ra : Option Addr) (rc : Nat) (w : World) (hK : Mt.KyA w ka kc m.keys) (hm : Mt.Gm m)
    (hl : Rc.RdA w la lc l) (hG : ∀ x ∈ l, Mt.Gf x.fields) (hr : Rc.FldA w ra rc r.fields) (hGr : Mt.Gf r.fields) (hn : (Mt.ids l).Nodup) (hll : l.length ≤ 1000000) :
    Calls Tryz.prog 24 #[.agg #[.slice ka m.keys.length kc, .int .i64 m.need], .slice la l.length lc, .agg #[.int .i64 r.id, .int .i64 r.ver, .int .i64 r.kind, .string r.lang, .slice ra r.fields.length rc]] w fun e w' => ∃ b o c, e = .returned (.slice (some ⟨b, o, none⟩) (Mt.find m l r).length c) ∧ Br.FA Mt.enc1 1 w' (some ⟨b, o, none⟩) c (Mt.find m l r) ∧ Below w.heap.size w w' := by
  have hml : maxLen = 9223372036854775807 := rfl
  obtain ⟨i0, hi0, hz0, hz1, hz2⟩ := info_parts info_int15
  have HI1 := Lib.hid hi0; clear hi0
  obtain ⟨W, hW⟩ : ∃ W, (w.alloc (.cells #[.slice ka m.keys.length kc, .int .i64 m.need] 24)).alloc (.cells #[.int .i64 r.id, .int .i64 r.ver, .int .i64 r.kind, .string r.lang, .slice ra r.fields.length rc] 33) = W := ⟨_, rfl⟩
  have hB : Below w.heap.size w W := by rw [← hW]; exact (Tx.newb _ _).alloc (Tx.newb w _).size _
  have m0 : W.cell? ⟨w.heap.size, 0, none⟩ = some (.slice ka m.keys.length kc) := by rw [← hW]; simp
  have m1 : W.cell? ⟨w.heap.size, 1, none⟩ = some (.int .i64 m.need) := by rw [← hW]; simp
  have r0 : W.cell? ⟨w.heap.size + 1, 0, none⟩ = some (.int .i64 r.id) := by rw [← hW]; simp
  have r1 : W.cell? ⟨w.heap.size + 1, 1, none⟩ = some (.int .i64 r.ver) := by rw [← hW]; simp
  have r2 : W.cell? ⟨w.heap.size + 1, 2, none⟩ = some (.int .i64 r.kind) := by rw [← hW]; simp
  have r3 : W.cell? ⟨w.heap.size + 1, 3, none⟩ = some (.string r.lang) := by rw [← hW]; simp
  have r4 : W.cell? ⟨w.heap.size + 1, 4, none⟩ = some (.slice ra r.fields.length rc) := by rw [← hW]; simp
  have HL := Lib.hid (hl.below hB)
  have HK := Lib.hid (hK.below hB)
  have HR := Lib.hid (hr.below hB)
  have HG := Lib.hid hG
  have HGR := Lib.hid hGr
  have HM := Lib.hid hm
  have HN := Lib.hid hn
  have hcap := hl.cap
  have hmax := hl.max
  clear hl hK hr hG hGr hm hn
  have hE : ∀ X (wx : World), Br.FA Mt.enc1 1 wx (some ⟨X, 0, none⟩) 0 [] := fun X wx => ⟨Nat.le_refl _, Nat.zero_le _, X, 0, fun h9 => absurd rfl h9, fun j i x u hx => by simp at hx⟩
  have HE := Lib.hid hE
  clear hE
  go_enter Tryz.func24, Tryz.ntmps24
  go_wp2
  clear hW
  go_loopw [7, 8, 9] (fun s7 s8 i wr => ∃ (k : Nat) (L : List (Int × Int)) (b1 o1 c1 b2 o2 c2 : Nat), k ≤ l.length ∧ i = .int .i64 k ∧ s7 = .slice (some ⟨b1, o1, none⟩) L.length c1 ∧ s8 = .slice (some ⟨b2, o2, none⟩) L.length c2 ∧ Hid (Br.FA Mt.enc1 1 wr (some ⟨b1, o1, none⟩) c1 (L.map (·.1))) ∧ Hid (Br.FA Mt.enc1 1 wr (some ⟨b2, o2, none⟩) c2 (L.map (·.2))) ∧ Hid (L = Cp.puts Mt.ltF (Mt.hitsF m (l.take k) r)) ∧ L.length ≤ k ∧ Below W.heap.size W wr) (fun _ _ i _ => l.length - (intOf i).toNat)
  case atStart => exact ⟨0, [], _, 0, 0, _, 0, 0, Nat.zero_le _, rfl, rfl, rfl, Lib.hid (HE.out _ _), Lib.hid (HE.out _ _), Lib.hid rfl, Nat.le_refl _, (Tx.newb _ _).alloc (Tx.newb _ _).size _⟩
  case round =>
    obtain ⟨k, L, b1, o1, c1, b2, o2, c2, hk, rfl, rfl, rfl, hf1, hf2, hL, hLk, hb⟩ := hrel
    have hbs := hb.size
    replace m0 := cell_later hb m0
    replace m1 := cell_later hb m1
    replace r0 := cell_later hb r0
    replace r1 := cell_later hb r1
    replace r2 := cell_later hb r2
    replace r3 := cell_later hb r3
    replace r4 := cell_later hb r4
    have hcap1 := hf1.out.cap
    have hmax1 := hf1.out.max
    have hcap2 := hf2.out.cap
    have hmax2 := hf2.out.max
    rw [List.length_map] at hcap1 hcap2
    by_cases hlt : k < l.length
    · obtain ⟨x, hx⟩ : ∃ x, l[k]? = some x := ⟨_, List.getElem?_eq_getElem hlt⟩
      obtain ⟨b, o, fa, fc, rfl, hbl, x0, x1, x2, x3, x4, hfx⟩ := HL.out.get hx
      replace x0 := cell_later hb x0
      replace x1 := cell_later hb x1
      replace x2 := cell_later hb x2
      replace x3 := cell_later hb x3
      replace x4 := cell_later hb x4
      have hst := Mt.hitsF_succ m r hx
      unfold Mt.hitS at hst
      have hq := (Below.refl wr.heap.size wr).drew
      have hbq := Tx.step hb hq
      have SC := r15_Score_c m ka kc x.fields fa fc x.id x.ver x.kind x.lang r.fields ra rc r.id r.ver r.kind r.lang wr.drew (HK.out.below hbq) HM.out (hfx.below hbq) (HG.out x (List.mem_of_getElem? hx)) (HR.out.below hbq) HGR.out
      rw [← Mt.score_sum m x r] at SC
      obtain ⟨sc, hsc⟩ : ∃ sc, Mt.score m x r = sc := ⟨_, rfl⟩
      rw [hsc] at SC hst
      have HSC := Lib.hid SC
      have hni := Mt.hits_ids (m := m) (r := r) HN.out hx sc
      rw [← hL.out] at hni
      have HNI := Lib.hid hni
      clear SC hsc hx hfx hni
      go_wp2
      go_still_tail 6, (by kernel_rfl)
      change wpList _ _ _ _ _ wr.drew
      obtain ⟨wq, hwq⟩ : ∃ wq, wr.drew = wq := ⟨_, rfl⟩
      rw [hwq] at hq hbq HSC ⊢
      clear hwq
      go_wp2_with (go_at_call 20; ((with_reducible refine HSC.out.mono ?_); rintro e w3 ⟨rfl, hb3⟩; have hb3r := Tx.step hq hb3; have hb3W := Tx.step hb hb3r; replace m1 := cell_later hb3r m1; replace r0 := cell_later hb3r r0; replace x0 := cell_later hb3r x0))
      by_cases hid : x.id = r.id
      · rw [if_neg (fun h9 => h9.1 hid), List.append_nil] at hst
        have HS : Hid (L = Cp.puts Mt.ltF (Mt.hitsF m (l.take (k + 1)) r)) := Lib.hid (by rw [hst]; exact hL.out)
        have hqq : (x.id == r.id) = true := by rw [hid]; exact beq_self_eq_true _
        clear hst hid hL
        go_quiet (fail)
        have hb4 := Tx.below_drewN (Below.refl w3.heap.size w3) nq
        generalize w3.drewN nq = w4 at hb4 ⊢
        have hb4r := Tx.step hb3r hb4
        go_wp2
        go_roundw
        case rel => exact ⟨k + 1, L, b1, o1, c1, b2, o2, c2, hlt, by go_num, rfl, rfl, Lib.hid (hf1.out.below hb4r), Lib.hid (hf2.out.below hb4r), HS, by omega, Tx.step hb hb4r⟩
        case measure => simp [intOf]; omega
      · have hqq : (x.id == r.id) = false := beq_eq_false_iff_ne.2 hid
        by_cases hnd : sc < m.need
        · rw [if_neg (fun h9 => by omega), List.append_nil] at hst
          have HS : Hid (L = Cp.puts Mt.ltF (Mt.hitsF m (l.take (k + 1)) r)) := Lib.hid (by rw [hst]; exact hL.out)
          clear hst hid hL
          go_quiet (fail)
          have hb4 := Tx.below_drewN (Below.refl w3.heap.size w3) nq
          generalize w3.drewN nq = w4 at hb4 ⊢
          have hb4r := Tx.step hb3r hb4
          go_wp2
          go_roundw
          case rel => exact ⟨k + 1, L, b1, o1, c1, b2, o2, c2, hlt, by go_num, rfl, rfl, Lib.hid (hf1.out.below hb4r), Lib.hid (hf2.out.below hb4r), HS, by omega, Tx.step hb hb4r⟩
          case measure => simp [intOf]; omega
        · rw [if_pos ⟨hid, by omega⟩] at hst
          have hput : Cp.puts Mt.ltF (Mt.hitsF m (l.take (k + 1)) r) = Cp.put Mt.ltF L (x.id, sc) := by rw [hst, Mt.puts_snoc, ← hL.out]
          have HPUT := Lib.hid hput
          clear hst hid hL hput
          have hndd : decide (sc < m.need) = false := decide_eq_false hnd
          go_quiet (fail)
          have hb4 := Tx.below_drewN (Below.refl w3.heap.size w3) nq
          generalize w3.drewN nq = w4 at hb4 ⊢
          have hb4r := Tx.step hb3r hb4
          have hf1' := Lib.hid (hf1.out.below hb4r)
          have hf2' := Lib.hid (hf2.out.below hb4r)
          have hb4W := Tx.step hb hb4r
          have z0 := cell_later hb4 x0
          clear hf1 hf2 m0 m1 r0 r1 r2 r3 r4 x0 x1 x2 x3 x4 hb3 hb3r hb3W hq hbq HSC hb
          go_wp2
          go_loopw [11] (fun i wr => ∃ p : Nat, p ≤ L.length ∧ i = .int .i64 p ∧ Hid (∀ j, j < p → ∀ y, L[j]? = some y → Mt.ltF y (x.id, sc) = true) ∧ Below w4.heap.size w4 wr) (fun i _ => L.length - (intOf i).toNat)
          case atStart => exact ⟨0, Nat.zero_le _, rfl, Lib.hid (fun j hj => absurd hj (Nat.not_lt_zero _)), Below.refl _ _⟩
          case round =>
            obtain ⟨p, hp, rfl, hE, hb5⟩ := hrel
            have hf1 := Lib.hid (hf1'.out.below hb5)
            have hf2 := Lib.hid (hf2'.out.below hb5)
            have y0 := cell_later hb5 z0
            go_wp2
            go_cut [72] (fun t wx => t = .bool (Mt.tst L p (x.id, sc)) ∧ Below w4.heap.size w4 wx)
            case first =>
              by_cases hpl : p < L.length
              · obtain ⟨y, hy⟩ : ∃ y, L[p]? = some y := ⟨_, List.getElem?_eq_getElem hpl⟩
                have HT : Hid (Mt.tst L p (x.id, sc) = Mt.ltF y (x.id, sc)) := Lib.hid (Mt.tst_some hy)
                obtain ⟨bq1, oq1, e1, _, hc1⟩ := hf1.out.get (k := p) (x := y.1) (by rw [List.getElem?_map, hy]; rfl)
                obtain ⟨bq2, oq2, e2, _, hc2⟩ := hf2.out.get (k := p) (x := y.2) (by rw [List.getElem?_map, hy]; rfl)
                injection e1 with e1
                injection e1 with e1 e1'
                injection e2 with e2
                injection e2 with e2 e2'
                subst e1 e1' e2 e2'
                have cy1 := hc1 0 _ rfl
                have cy2 := hc2 0 _ rfl
                rw [Nat.mul_one, Nat.add_zero] at cy1 cy2
                have hpi : (p : Int) < (L.length : Int) := by omega
                clear hc1 hc2 hy
                have HF : Hid (Mt.ltF y (x.id, sc) = (decide (sc < y.2) || (decide (y.2 = sc) && decide (y.1 < x.id)))) := Lib.hid (by
                  unfold Mt.ltF
                  simp only [eq_comm])
                rcases (by omega : y.2 > sc ∨ (¬ y.2 > sc ∧ y.2 ≠ sc) ∨ (¬ y.2 > sc ∧ y.2 = sc ∧ y.1 < x.id) ∨ (¬ y.2 > sc ∧ y.2 = sc ∧ ¬ y.1 < x.id)) with g1 | ⟨g1, g2⟩ | ⟨g1, g2, g3⟩ | ⟨g1, g2, g3⟩
                · have HB : Hid (Mt.tst L p (x.id, sc) = true) := Lib.hid (by rw [HT.out, HF.out]; simp; omega)
                  go_quiet (fail)
                  go_wp2_with fail
                  go_meet
                  exact ⟨by rw [HB.out], Tx.below_drewN hb5 _⟩
                · have HB : Hid (Mt.tst L p (x.id, sc) = false) := Lib.hid (by rw [HT.out, HF.out]; simp; omega)
                  have q1 : decide (y.2 > sc) = false := decide_eq_false g1
                  have q2 : (y.2 == sc) = false := beq_eq_false_iff_ne.2 g2
                  clear g1 g2
                  go_quiet (fail)
                  go_wp2_with fail
                  go_meet
                  exact ⟨by rw [HB.out], Tx.below_drewN hb5 _⟩
                · have HB : Hid (Mt.tst L p (x.id, sc) = true) := Lib.hid (by rw [HT.out, HF.out]; simp; omega)
                  have q1 : decide (y.2 > sc) = false := decide_eq_false g1
                  have q2 : (y.2 == sc) = true := by rw [g2]; exact beq_self_eq_true _
                  clear g1 g2
                  go_quiet (fail)
                  go_wp2_with fail
                  go_meet
                  exact ⟨by rw [HB.out], Tx.below_drewN hb5 _⟩
                · have HB : Hid (Mt.tst L p (x.id, sc) = false) := Lib.hid (by rw [HT.out, HF.out]; simp; omega)
                  have q1 : decide (y.2 > sc) = false := decide_eq_false g1
                  have q2 : (y.2 == sc) = true := by rw [g2]; exact beq_self_eq_true _
                  have q3 : decide (y.1 < x.id) = false := decide_eq_false g3
                  clear g1 g2 g3
                  go_quiet (fail)
                  go_wp2_with fail
                  go_meet
                  exact ⟨by rw [HB.out], Tx.below_drewN hb5 _⟩
              · have HB : Hid (Mt.tst L p (x.id, sc) = false) := Lib.hid (Mt.tst_none (by omega))
                have hpi : decide ((p : Int) < (L.length : Int)) = false := decide_eq_false (by omega)
                go_quiet (fail)
                go_wp2_with fail
                go_meet
                exact ⟨by rw [HB.out], Tx.below_drewN hb5 _⟩
            case rest =>
              obtain ⟨rfl, hb6⟩ := hcut
              obtain ⟨V7, hV7⟩ : ∃ V7, V7 = wc := ⟨_, rfl⟩
              subst hV7
              cases htt : Mt.tst L p (x.id, sc) with
              | true =>
                obtain ⟨y, hy, hlt9⟩ := Mt.tst_true htt
                have hpl : p < L.length := (List.getElem?_eq_some_iff.1 hy).1
                have HE2 : Hid (∀ j, j < p + 1 → ∀ y, L[j]? = some y → Mt.ltF y (x.id, sc) = true) := Lib.hid (fun j hj q hq => by
                  rcases (by omega : j < p ∨ j = p) with h1 | h1
                  · exact hE.out j h1 q hq
                  · subst h1
                    rw [hy] at hq; injection hq with hq; rw [← hq]; exact hlt9)
                clear htt hy hlt9
                go_wp2
                go_roundw
                case rel => first | exact ⟨p + 1, hpl, by go_num, HE2, hb6⟩ | ((repeat apply Exists.intro); exact ⟨⟨p + 1, hpl, by go_num, HE2, hb6⟩, rfl⟩)
                case measure => simp [intOf]; omega
              | false =>
                have hps := Cs.put_scan Mt.ltF (x.id, sc) L p hp hE.out (fun y hy => Mt.tst_false htt hy)
                rw [if_neg (fun h9 => HNI.out (List.mem_of_getElem? h9))] at hps
                have HPS := Lib.hid hps
                have h6W := Tx.step hb4W hb6
                have h6Ws := h6W.size
                have x7 := cell_later hb6 z0
                have hbl7 : b < V7.heap.size := Nat.lt_of_lt_of_le hbl h6Ws
                have g1 := Lib.hid (hf1'.out.below hb6)
                have g2 := Lib.hid (hf2'.out.below hb6)
                have hpL : p ≤ 1000000 := by omega
                clear htt hps hE hf1 hf2 hf1' hf2' y0 z0
                go_wp2
                go_cut [7] (fun s wx => ∃ v, s = v ∧ Hid (Sq.OwnZ wx V7.heap.size 3 1 v (L.length + 1) (((L.map (·.1)).take p ++ x.id :: (L.map (·.1)).drop p).flatMap Mt.enc1)) ∧ Below V7.heap.size V7 wx)
                case first =>
                  have HLT : Hid ((((L.map (·.1)).take p).flatMap Mt.enc1).length = p * 1) := Lib.hid (by rw [Br.flat_len Mt.enc1 1 Mt.enc1_len, List.length_take, List.length_map, Nat.min_eq_left hp])
                  have HLD : Hid ((((L.map (·.1)).drop p).flatMap Mt.enc1).length = (L.length - p) * 1) := Lib.hid (by rw [Br.flat_len Mt.enc1 1 Mt.enc1_len, List.length_drop, List.length_map])
                  have FO : Hid (∀ u ∈ ((L.map (·.1)).take p).flatMap Mt.enc1, u.oneCell' = true) := Lib.hid (Br.flat_one Mt.enc1_one _)
                  have FO2 : Hid (∀ u ∈ ((L.map (·.1)).drop p).flatMap Mt.enc1, u.oneCell' = true) := Lib.hid (Br.flat_one Mt.enc1_one _)
                  have FT : Hid (∀ w', Below V7.heap.size V7 w' → ∀ j u, (((L.map (·.1)).take p).flatMap Mt.enc1)[j]? = some u → w'.cell? ((⟨b1, o1, none⟩ : Addr).add j) = some u) := Lib.hid (fun w' h9 => g1.out.cellsT Mt.enc1_len (by decide) h9 p)
                  have FD : Hid (∀ w', Below V7.heap.size V7 w' → ∀ j u, (((L.map (·.1)).drop p).flatMap Mt.enc1)[j]? = some u → w'.cell? ((⟨b1, o1 + p, none⟩ : Addr).add j) = some u) := Lib.hid (fun w' h9 => g1.out.cellsD Mt.enc1_len (by decide) h9 p (by rw [List.length_map]; exact hp) (o1 + p) (by omega))
                  have HM1 : Hid (0 + p ≤ maxLen) := Lib.hid (by unfold maxLen; omega)
                  have HM2 : Hid ((0 + p) * 8 ≤ 140737488355328) := Lib.hid (by omega)
                  have HM3 : Hid (0 + p + 1 ≤ maxLen) := Lib.hid (by unfold maxLen; omega)
                  have HM4 : Hid ((0 + p + 1) * 8 ≤ 140737488355328) := Lib.hid (by omega)
                  have HM5 : Hid (0 + p + 1 + (L.length - p) ≤ maxLen) := Lib.hid (by unfold maxLen; omega)
                  have HM6 : Hid ((0 + p + 1 + (L.length - p)) * 8 ≤ 140737488355328) := Lib.hid (by omega)
                  have HND : Hid (0 + p + 1 + (L.length - p) = L.length + 1) := Lib.hid (by omega)
                  have HVD : Hid ([] ++ ((L.map (·.1)).take p).flatMap Mt.enc1 ++ [Value.int .i64 x.id] ++ ((L.map (·.1)).drop p).flatMap Mt.enc1 = ((L.map (·.1)).take p ++ x.id :: (L.map (·.1)).drop p).flatMap Mt.enc1) := Lib.hid (by simp [Mt.enc1])
                  have HNE : Hid (p = L.length → 0 + p + 1 + 0 = L.length + 1) := Lib.hid (by omega)
                  have HVE : Hid (p = L.length → [] ++ ((L.map (·.1)).take p).flatMap Mt.enc1 ++ [Value.int .i64 x.id] ++ [] = ((L.map (·.1)).take p ++ x.id :: (L.map (·.1)).drop p).flatMap Mt.enc1) := Lib.hid (fun h9 => by rw [List.drop_of_length_le (by rw [List.length_map]; omega)]; simp [Mt.enc1])
                  rcases (by omega : p < L.length ∨ (p = L.length ∧ L.length = c1) ∨ (p = L.length ∧ L.length < c1)) with hpc | ⟨hpc, hcc⟩ | ⟨hpc, hcc⟩
                  · have hq1 : (p : Int) ≤ (L.length : Int) := by omega
                    have hq2 : (p : Int) < (c1 : Int) := by omega
                    have hq3 : (p : Int) ≤ (c1 : Int) := by omega
                    have hq4 : p < c1 := by omega
                    have hq5 : ¬ c1 = p := by omega
                    go_region_law (first
                      | (refine Sq.step_append_z _ (by rfl) _ _ 46 (by rfl) V7.heap.size 3 i0 _ 1 8 Tryz.underlying46 HI1.out hz0 hz1 hz2 (by rfl) (by decide) _ (0 + p + 1) _ (by rfl) own2 _ (L.length - p) _ (((L.map (·.1)).drop p).flatMap Mt.enc1) (by rfl) HLD.out (FD.out _ hb2) FO2.out HM5.out HM6.out hb2.size ?_; intro v3 w3 own3 hg3 hz3'; have hb3 := hb2.trans hz3')
                      | (refine Sq.step_append_z _ (by rfl) _ _ 46 (by rfl) V7.heap.size 3 i0 _ 1 8 Tryz.underlying46 HI1.out hz0 hz1 hz2 (by rfl) (by decide) _ (0 + p) _ (by rfl) (by first | exact own1 | exact own1.alloc _) _ 1 _ [Value.int .i64 x.id] (by rfl) (by rfl) (by first | exact hel | exact Br.cells_new_at _ _ (by first | rfl | simp) _ _) (by simp [Value.oneCell']) HM3.out HM4.out (by first | exact hb1.size | (have := hb1.size; simp; omega)) ?_; intro v2 w2 own2 hg2 hz2'; have hb2 : Below V7.heap.size _ w2 := Below.trans (by first | exact hb1 | exact hb1.alloc hb1.size _) hz2')
                      | (refine Sq.step_append_z _ (by rfl) _ _ 46 (by rfl) V7.heap.size 3 i0 _ 1 8 Tryz.underlying46 HI1.out hz0 hz1 hz2 (by rfl) (by decide) _ 0 [] (by rfl) (Sq.OwnZ.lit _ _ _ _ _) _ p _ (((L.map (·.1)).take p).flatMap Mt.enc1) (by rfl) HLT.out (FT.out _ (by first | exact (Tx.newb _ _).drew | exact ((Tx.newb _ _).alloc (by simp) _).drew)) FO.out HM1.out HM2.out (by simp; try omega) ?_; intro v1 w1 own1 hg1 hz1'; have hb1 : Below V7.heap.size _ w1 := Below.trans (by first | exact (Tx.newb _ _).drew | exact ((Tx.newb _ _).alloc (by simp) _).drew) hz1'; (first | have hel := Sq.el1 hg1 | have hel := Sq.el2 hg1 | skip); have hx1 := cell_later hb1 x7))
                    all_goals
                      go_wp2_with fail
                      go_meet
                      exact ⟨v3, rfl, Lib.hid (Mt.own_cast own3 HND.out HVD.out), hb3⟩
                  · subst hpc
                    have HNE2 := Lib.hid (HNE.out rfl)
                    have HVE2 := Lib.hid (HVE.out rfl)
                    clear HNE HVE
                    obtain rfl := hcc
                    go_region_law (first
                      | (refine Sq.step_append_z _ (by rfl) _ _ 46 (by rfl) V7.heap.size 3 i0 _ 1 8 Tryz.underlying46 HI1.out hz0 hz1 hz2 (by rfl) (by decide) _ (0 + L.length + 1) _ (by rfl) own2 _ 0 _ [] (by rfl) (by rfl) (fun j u h9 => by simp at h9) (fun u h9 => by simp at h9) HM3.out HM4.out hb2.size ?_; intro v3 w3 own3 hg3 hz3'; have hb3 := hb2.trans hz3')
                      | (refine Sq.step_append_z _ (by rfl) _ _ 46 (by rfl) V7.heap.size 3 i0 _ 1 8 Tryz.underlying46 HI1.out hz0 hz1 hz2 (by rfl) (by decide) _ (0 + L.length) _ (by rfl) (by first | exact own1 | exact own1.alloc _) _ 1 _ [Value.int .i64 x.id] (by rfl) (by rfl) (by first | exact hel | exact Br.cells_new_at _ _ (by first | rfl | simp) _ _) (by simp [Value.oneCell']) HM3.out HM4.out (by first | exact hb1.size | (have := hb1.size; simp; omega)) ?_; intro v2 w2 own2 hg2 hz2'; have hb2 : Below V7.heap.size _ w2 := Below.trans (by first | exact hb1 | exact hb1.alloc hb1.size _) hz2')
                      | (refine Sq.step_append_z _ (by rfl) _ _ 46 (by rfl) V7.heap.size 3 i0 _ 1 8 Tryz.underlying46 HI1.out hz0 hz1 hz2 (by rfl) (by decide) _ 0 [] (by rfl) (Sq.OwnZ.lit _ _ _ _ _) _ L.length _ (((L.map (·.1)).take L.length).flatMap Mt.enc1) (by rfl) HLT.out (FT.out _ (by first | exact (Tx.newb _ _).drew | exact ((Tx.newb _ _).alloc (by simp) _).drew)) FO.out HM1.out HM2.out (by simp; try omega) ?_; intro v1 w1 own1 hg1 hz1'; have hb1 : Below V7.heap.size _ w1 := Below.trans (by first | exact (Tx.newb _ _).drew | exact ((Tx.newb _ _).alloc (by simp) _).drew) hz1'; (first | have hel := Sq.el1 hg1 | have hel := Sq.el2 hg1 | skip); have hx1 := cell_later hb1 x7))
                    all_goals
                      go_wp2_with fail
                      go_meet
                      exact ⟨v3, rfl, Lib.hid (Mt.own_cast own3 HNE2.out HVE2.out), hb3⟩
                  · subst hpc
                    have HNE2 := Lib.hid (HNE.out rfl)
                    have HVE2 := Lib.hid (HVE.out rfl)
                    clear HNE HVE
                    have hq1 : (L.length : Int) < (c1 : Int) := by omega
                    have hq2 : (L.length : Int) ≤ (c1 : Int) := by omega
                    have hq5 : ¬ c1 = L.length := by omega
                    go_region_law (first
                      | (refine Sq.step_append_z _ (by rfl) _ _ 46 (by rfl) V7.heap.size 3 i0 _ 1 8 Tryz.underlying46 HI1.out hz0 hz1 hz2 (by rfl) (by decide) _ (0 + L.length + 1) _ (by rfl) own2 _ 0 _ [] (by rfl) (by rfl) (fun j u h9 => by simp at h9) (fun u h9 => by simp at h9) HM3.out HM4.out hb2.size ?_; intro v3 w3 own3 hg3 hz3'; have hb3 := hb2.trans hz3')
                      | (refine Sq.step_append_z _ (by rfl) _ _ 46 (by rfl) V7.heap.size 3 i0 _ 1 8 Tryz.underlying46 HI1.out hz0 hz1 hz2 (by rfl) (by decide) _ (0 + L.length) _ (by rfl) (by first | exact own1 | exact own1.alloc _) _ 1 _ [Value.int .i64 x.id] (by rfl) (by rfl) (by first | exact hel | exact Br.cells_new_at _ _ (by first | rfl | simp) _ _) (by simp [Value.oneCell']) HM3.out HM4.out (by first | exact hb1.size | (have := hb1.size; simp; omega)) ?_; intro v2 w2 own2 hg2 hz2'; have hb2 : Below V7.heap.size _ w2 := Below.trans (by first | exact hb1 | exact hb1.alloc hb1.size _) hz2')
                      | (refine Sq.step_append_z _ (by rfl) _ _ 46 (by rfl) V7.heap.size 3 i0 _ 1 8 Tryz.underlying46 HI1.out hz0 hz1 hz2 (by rfl) (by decide) _ 0 [] (by rfl) (Sq.OwnZ.lit _ _ _ _ _) _ L.length _ (((L.map (·.1)).take L.length).flatMap Mt.enc1) (by rfl) HLT.out (FT.out _ (by first | exact (Tx.newb _ _).drew | exact ((Tx.newb _ _).alloc (by simp) _).drew)) FO.out HM1.out HM2.out (by simp; try omega) ?_; intro v1 w1 own1 hg1 hz1'; have hb1 : Below V7.heap.size _ w1 := Below.trans (by first | exact (Tx.newb _ _).drew | exact ((Tx.newb _ _).alloc (by simp) _).drew) hz1'; (first | have hel := Sq.el1 hg1 | have hel := Sq.el2 hg1 | skip); have hx1 := cell_later hb1 x7))
                    all_goals
                      go_wp2_with fail
                      go_meet
                      exact ⟨v3, rfl, Lib.hid (Mt.own_cast own3 HNE2.out HVE2.out), hb3⟩
                case rest =>
                  obtain ⟨v7, rfl, ho7, hb7⟩ := hcut
                  obtain ⟨b7, o7, c7, rfl, hf7⟩ := Sq.OwnZ.fa Mt.enc1_len ho7.out (by simp; omega)
                  have HF7 := Lib.hid hf7
                  have g2b := Lib.hid (g2.out.below hb7)
                  have h7W := Tx.step h6W hb7
                  obtain ⟨V8, hV8⟩ : ∃ V8, V8 = wc := ⟨_, rfl⟩
                  subst hV8
                  have HQ1 : Hid ((L.take p ++ (x.id, sc) :: L.drop p).map (·.1) = (L.map (·.1)).take p ++ x.id :: (L.map (·.1)).drop p) := Lib.hid (by simp [List.map_take, List.map_drop])
                  have HQ2 : Hid ((L.take p ++ (x.id, sc) :: L.drop p).map (·.2) = (L.map (·.2)).take p ++ sc :: (L.map (·.2)).drop p) := Lib.hid (by simp [List.map_take, List.map_drop])
                  have HLE : Hid ((L.take p ++ (x.id, sc) :: L.drop p).length = L.length + 1) := Lib.hid (by simp; omega)
                  have HY7 : Hid (((L.map (·.1)).take p ++ x.id :: (L.map (·.1)).drop p).length = (L.take p ++ (x.id, sc) :: L.drop p).length) := Lib.hid (by simp)
                  have HY8 : Hid (((L.map (·.2)).take p ++ sc :: (L.map (·.2)).drop p).length = (L.take p ++ (x.id, sc) :: L.drop p).length) := Lib.hid (by simp)
                  have HZ8 : Hid (L.length + 1 = ((L.map (·.2)).take p ++ sc :: (L.map (·.2)).drop p).length) := Lib.hid (by simp; omega)
                  clear hf7 ho7 x7 g1 g2
                  go_wp2
                  have HLT : Hid ((((L.map (·.2)).take p).flatMap Mt.enc1).length = p * 1) := Lib.hid (by rw [Br.flat_len Mt.enc1 1 Mt.enc1_len, List.length_take, List.length_map, Nat.min_eq_left hp])
                  have HLD : Hid ((((L.map (·.2)).drop p).flatMap Mt.enc1).length = (L.length - p) * 1) := Lib.hid (by rw [Br.flat_len Mt.enc1 1 Mt.enc1_len, List.length_drop, List.length_map])
                  have FO : Hid (∀ u ∈ ((L.map (·.2)).take p).flatMap Mt.enc1, u.oneCell' = true) := Lib.hid (Br.flat_one Mt.enc1_one _)
                  have FO2 : Hid (∀ u ∈ ((L.map (·.2)).drop p).flatMap Mt.enc1, u.oneCell' = true) := Lib.hid (Br.flat_one Mt.enc1_one _)
                  have FT : Hid (∀ w', Below V8.heap.size V8 w' → ∀ j u, (((L.map (·.2)).take p).flatMap Mt.enc1)[j]? = some u → w'.cell? ((⟨b2, o2, none⟩ : Addr).add j) = some u) := Lib.hid (fun w' h9 => g2b.out.cellsT Mt.enc1_len (by decide) h9 p)
                  have FD : Hid (∀ w', Below V8.heap.size V8 w' → ∀ j u, (((L.map (·.2)).drop p).flatMap Mt.enc1)[j]? = some u → w'.cell? ((⟨b2, o2 + p, none⟩ : Addr).add j) = some u) := Lib.hid (fun w' h9 => g2b.out.cellsD Mt.enc1_len (by decide) h9 p (by rw [List.length_map]; exact hp) (o2 + p) (by omega))
                  have HM1 : Hid (0 + p ≤ maxLen) := Lib.hid (by unfold maxLen; omega)
                  have HM2 : Hid ((0 + p) * 8 ≤ 140737488355328) := Lib.hid (by omega)
                  have HM3 : Hid (0 + p + 1 ≤ maxLen) := Lib.hid (by unfold maxLen; omega)
                  have HM4 : Hid ((0 + p + 1) * 8 ≤ 140737488355328) := Lib.hid (by omega)
                  have HM5 : Hid (0 + p + 1 + (L.length - p) ≤ maxLen) := Lib.hid (by unfold maxLen; omega)
                  have HM6 : Hid ((0 + p + 1 + (L.length - p)) * 8 ≤ 140737488355328) := Lib.hid (by omega)
                  have HND : Hid (0 + p + 1 + (L.length - p) = L.length + 1) := Lib.hid (by omega)
                  have HVD : Hid ([] ++ ((L.map (·.2)).take p).flatMap Mt.enc1 ++ [Value.int .i64 sc] ++ ((L.map (·.2)).drop p).flatMap Mt.enc1 = ((L.map (·.2)).take p ++ sc :: (L.map (·.2)).drop p).flatMap Mt.enc1) := Lib.hid (by simp [Mt.enc1])
                  have HNE : Hid (p = L.length → 0 + p + 1 + 0 = L.length + 1) := Lib.hid (by omega)
                  have HVE : Hid (p = L.length → [] ++ ((L.map (·.2)).take p).flatMap Mt.enc1 ++ [Value.int .i64 sc] ++ [] = ((L.map (·.2)).take p ++ sc :: (L.map (·.2)).drop p).flatMap Mt.enc1) := Lib.hid (fun h9 => by rw [List.drop_of_length_le (by rw [List.length_map]; omega)]; simp [Mt.enc1])
                  rcases (by omega : p < L.length ∨ (p = L.length ∧ L.length = c2) ∨ (p = L.length ∧ L.length < c2)) with hpc | ⟨hpc, hcc⟩ | ⟨hpc, hcc⟩
                  · have hq1 : (p : Int) ≤ (L.length : Int) := by omega
                    have hq2 : (p : Int) < (c2 : Int) := by omega
                    have hq3 : (p : Int) ≤ (c2 : Int) := by omega
                    have hq4 : p < c2 := by omega
                    have hq5 : ¬ c2 = p := by omega
                    go_region_law (first
                      | (refine Sq.step_append_z _ (by rfl) _ _ 46 (by rfl) V8.heap.size 3 i0 _ 1 8 Tryz.underlying46 HI1.out hz0 hz1 hz2 (by rfl) (by decide) _ (0 + p + 1) _ (by rfl) own2 _ (L.length - p) _ (((L.map (·.2)).drop p).flatMap Mt.enc1) (by rfl) HLD.out (FD.out _ hb2) FO2.out HM5.out HM6.out hb2.size ?_; intro v3 w3 own3 hg3 hz3'; have hb3 := hb2.trans hz3')
                      | (refine Sq.step_append_z _ (by rfl) _ _ 46 (by rfl) V8.heap.size 3 i0 _ 1 8 Tryz.underlying46 HI1.out hz0 hz1 hz2 (by rfl) (by decide) _ (0 + p) _ (by rfl) (by first | exact own1 | exact own1.alloc _) _ 1 _ [Value.int .i64 sc] (by rfl) (by rfl) (by first | exact hel | exact Br.cells_new_at _ _ (by first | rfl | simp) _ _) (by simp [Value.oneCell']) HM3.out HM4.out (by first | exact hb1.size | (have := hb1.size; simp; omega)) ?_; intro v2 w2 own2 hg2 hz2'; have hb2 : Below V8.heap.size _ w2 := Below.trans (by first | exact hb1 | exact hb1.alloc hb1.size _) hz2')
                      | (refine Sq.step_append_z _ (by rfl) _ _ 46 (by rfl) V8.heap.size 3 i0 _ 1 8 Tryz.underlying46 HI1.out hz0 hz1 hz2 (by rfl) (by decide) _ 0 [] (by rfl) (Sq.OwnZ.lit _ _ _ _ _) _ p _ (((L.map (·.2)).take p).flatMap Mt.enc1) (by rfl) HLT.out (FT.out _ (by first | exact (Tx.newb _ _).drew | exact ((Tx.newb _ _).alloc (by simp) _).drew)) FO.out HM1.out HM2.out (by simp; try omega) ?_; intro v1 w1 own1 hg1 hz1'; have hb1 : Below V8.heap.size _ w1 := Below.trans (by first | exact (Tx.newb _ _).drew | exact ((Tx.newb _ _).alloc (by simp) _).drew) hz1'; (first | have hel := Sq.el1 hg1 | have hel := Sq.el2 hg1 | skip)))
                    all_goals
                      have ho8 := Lib.hid (Mt.own_cast own3 HND.out HVD.out)
                      have hb8 := hb3
                      clear own1 own2 own3 hg1 hg2 hg3 hz1' hz2' hz3' hb1 hb2 hb3
                      obtain ⟨b8, o8, c8, rfl, hf8⟩ := Sq.OwnZ.fa Mt.enc1_len ho8.out HZ8.out
                      have HF8 := Lib.hid hf8
                      have HF7b := Lib.hid (HF7.out.below hb8)
                      clear hf8 ho8
                      go_wp2
                      go_roundw
                      case rel => exact ⟨k + 1, L.take p ++ (x.id, sc) :: L.drop p, b7, o7, c7, b8, o8, c8, hlt, by go_num, congrArg (fun n => Value.slice (some ⟨b7, o7, none⟩) n c7) (by first | (simp; done) | (simp; omega)), congrArg (fun n => Value.slice (some ⟨b8, o8, none⟩) n c8) (by first | (simp; done) | (simp; omega)), Lib.hid (by rw [HQ1.out]; exact HF7b.out), Lib.hid (by rw [HQ2.out]; exact HF8.out), Lib.hid (by rw [HPUT.out, HPS.out]), by have := HLE.out; omega, Tx.step h7W hb8⟩
                      case measure => simp [intOf]; omega
                  · subst hpc
                    have HNE2 := Lib.hid (HNE.out rfl)
                    have HVE2 := Lib.hid (HVE.out rfl)
                    clear HNE HVE
                    obtain rfl := hcc
                    go_region_law (first
                      | (refine Sq.step_append_z _ (by rfl) _ _ 46 (by rfl) V8.heap.size 3 i0 _ 1 8 Tryz.underlying46 HI1.out hz0 hz1 hz2 (by rfl) (by decide) _ (0 + L.length + 1) _ (by rfl) own2 _ 0 _ [] (by rfl) (by rfl) (fun j u h9 => by simp at h9) (fun u h9 => by simp at h9) HM3.out HM4.out hb2.size ?_; intro v3 w3 own3 hg3 hz3'; have hb3 := hb2.trans hz3')
                      | (refine Sq.step_append_z _ (by rfl) _ _ 46 (by rfl) V8.heap.size 3 i0 _ 1 8 Tryz.underlying46 HI1.out hz0 hz1 hz2 (by rfl) (by decide) _ (0 + L.length) _ (by rfl) (by first | exact own1 | exact own1.alloc _) _ 1 _ [Value.int .i64 sc] (by rfl) (by rfl) (by first | exact hel | exact Br.cells_new_at _ _ (by first | rfl | simp) _ _) (by simp [Value.oneCell']) HM3.out HM4.out (by first | exact hb1.size | (have := hb1.size; simp; omega)) ?_; intro v2 w2 own2 hg2 hz2'; have hb2 : Below V8.heap.size _ w2 := Below.trans (by first | exact hb1 | exact hb1.alloc hb1.size _) hz2')
                      | (refine Sq.step_append_z _ (by rfl) _ _ 46 (by rfl) V8.heap.size 3 i0 _ 1 8 Tryz.underlying46 HI1.out hz0 hz1 hz2 (by rfl) (by decide) _ 0 [] (by rfl) (Sq.OwnZ.lit _ _ _ _ _) _ L.length _ (((L.map (·.2)).take L.length).flatMap Mt.enc1) (by rfl) HLT.out (FT.out _ (by first | exact (Tx.newb _ _).drew | exact ((Tx.newb _ _).alloc (by simp) _).drew)) FO.out HM1.out HM2.out (by simp; try omega) ?_; intro v1 w1 own1 hg1 hz1'; have hb1 : Below V8.heap.size _ w1 := Below.trans (by first | exact (Tx.newb _ _).drew | exact ((Tx.newb _ _).alloc (by simp) _).drew) hz1'; (first | have hel := Sq.el1 hg1 | have hel := Sq.el2 hg1 | skip)))
                    all_goals
                      have ho8 := Lib.hid (Mt.own_cast own3 HNE2.out HVE2.out)
                      have hb8 := hb3
                      clear own1 own2 own3 hg1 hg2 hg3 hz1' hz2' hz3' hb1 hb2 hb3
                      obtain ⟨b8, o8, c8, rfl, hf8⟩ := Sq.OwnZ.fa Mt.enc1_len ho8.out HZ8.out
                      have HF8 := Lib.hid hf8
                      have HF7b := Lib.hid (HF7.out.below hb8)
                      clear hf8 ho8
                      go_wp2
                      go_roundw
                      case rel => exact ⟨k + 1, L.take L.length ++ (x.id, sc) :: L.drop L.length, b7, o7, c7, b8, o8, c8, hlt, by go_num, congrArg (fun n => Value.slice (some ⟨b7, o7, none⟩) n c7) (by first | (simp; done) | (simp; omega)), congrArg (fun n => Value.slice (some ⟨b8, o8, none⟩) n c8) (by first | (simp; done) | (simp; omega)), Lib.hid (by rw [HQ1.out]; exact HF7b.out), Lib.hid (by rw [HQ2.out]; exact HF8.out), Lib.hid (by rw [HPUT.out, HPS.out]), by have := HLE.out; omega, Tx.step h7W hb8⟩
                      case measure => simp [intOf]; omega
                  · subst hpc
                    have HNE2 := Lib.hid (HNE.out rfl)
                    have HVE2 := Lib.hid (HVE.out rfl)
                    clear HNE HVE
                    have hq1 : (L.length : Int) < (c2 : Int) := by omega
                    have hq2 : (L.length : Int) ≤ (c2 : Int) := by omega
                    have hq5 : ¬ c2 = L.length := by omega
                    go_region_law (first
                      | (refine Sq.step_append_z _ (by rfl) _ _ 46 (by rfl) V8.heap.size 3 i0 _ 1 8 Tryz.underlying46 HI1.out hz0 hz1 hz2 (by rfl) (by decide) _ (0 + L.length + 1) _ (by rfl) own2 _ 0 _ [] (by rfl) (by rfl) (fun j u h9 => by simp at h9) (fun u h9 => by simp at h9) HM3.out HM4.out hb2.size ?_; intro v3 w3 own3 hg3 hz3'; have hb3 := hb2.trans hz3')
                      | (refine Sq.step_append_z _ (by rfl) _ _ 46 (by rfl) V8.heap.size 3 i0 _ 1 8 Tryz.underlying46 HI1.out hz0 hz1 hz2 (by rfl) (by decide) _ (0 + L.length) _ (by rfl) (by first | exact own1 | exact own1.alloc _) _ 1 _ [Value.int .i64 sc] (by rfl) (by rfl) (by first | exact hel | exact Br.cells_new_at _ _ (by first | rfl | simp) _ _) (by simp [Value.oneCell']) HM3.out HM4.out (by first | exact hb1.size | (have := hb1.size; simp; omega)) ?_; intro v2 w2 own2 hg2 hz2'; have hb2 : Below V8.heap.size _ w2 := Below.trans (by first | exact hb1 | exact hb1.alloc hb1.size _) hz2')
                      | (refine Sq.step_append_z _ (by rfl) _ _ 46 (by rfl) V8.heap.size 3 i0 _ 1 8 Tryz.underlying46 HI1.out hz0 hz1 hz2 (by rfl) (by decide) _ 0 [] (by rfl) (Sq.OwnZ.lit _ _ _ _ _) _ L.length _ (((L.map (·.2)).take L.length).flatMap Mt.enc1) (by rfl) HLT.out (FT.out _ (by first | exact (Tx.newb _ _).drew | exact ((Tx.newb _ _).alloc (by simp) _).drew)) FO.out HM1.out HM2.out (by simp; try omega) ?_; intro v1 w1 own1 hg1 hz1'; have hb1 : Below V8.heap.size _ w1 := Below.trans (by first | exact (Tx.newb _ _).drew | exact ((Tx.newb _ _).alloc (by simp) _).drew) hz1'; (first | have hel := Sq.el1 hg1 | have hel := Sq.el2 hg1 | skip)))
                    all_goals
                      have ho8 := Lib.hid (Mt.own_cast own3 HNE2.out HVE2.out)
                      have hb8 := hb3
                      clear own1 own2 own3 hg1 hg2 hg3 hz1' hz2' hz3' hb1 hb2 hb3
                      obtain ⟨b8, o8, c8, rfl, hf8⟩ := Sq.OwnZ.fa Mt.enc1_len ho8.out HZ8.out
                      have HF8 := Lib.hid hf8
                      have HF7b := Lib.hid (HF7.out.below hb8)
                      clear hf8 ho8
                      go_wp2
                      go_roundw
                      case rel => exact ⟨k + 1, L.take L.length ++ (x.id, sc) :: L.drop L.length, b7, o7, c7, b8, o8, c8, hlt, by go_num, congrArg (fun n => Value.slice (some ⟨b7, o7, none⟩) n c7) (by first | (simp; done) | (simp; omega)), congrArg (fun n => Value.slice (some ⟨b8, o8, none⟩) n c8) (by first | (simp; done) | (simp; omega)), Lib.hid (by rw [HQ1.out]; exact HF7b.out), Lib.hid (by rw [HQ2.out]; exact HF8.out), Lib.hid (by rw [HPUT.out, HPS.out]), by have := HLE.out; omega, Tx.step h7W hb8⟩
                      case measure => simp [intOf]; omega
    · obtain rfl : k = l.length := by omega
      have hfin : L.map (·.1) = Mt.find m l r := by rw [hL.out, List.take_length]; rfl
      have hlen : L.length = (Mt.find m l r).length := by rw [← hfin, List.length_map]
      have HFIN := Lib.hid hfin
      have HLEN := Lib.hid hlen
      clear hfin hlen hL
      go_wp2
      go_ret
      exact ⟨b1, o1, c1, congrArg (fun n => Ending.returned (.slice (some ⟨b1, o1, none⟩) n c1)) HLEN.out, by rw [← HFIN.out]; exact hf1.out, Tx.step hB hb⟩
end Go.Proofs.YtogpghpgnpoioaaGreatDoor
