/- The reference's Pairs: what the call returns. -/
import Derived.Test.YtogpghpgnpoioaaGreatDoorMuI
namespace Go.Proofs.YtogpghpgnpoioaaGreatDoor
open Go.RowKit
set_option maxRecDepth 100000

namespace Mt
open Rc
/-- What two records give. -/
def hitR (m : Rule) (a b : Rd) : List (Int × Int) := if a.id < b.id ∧ m.need ≤ score m a b then [(a.id, b.id)] else []
theorem hitsP_eq (m : Rule) (l : List Rd) : hitsP m l = l.flatMap fun a => l.flatMap (hitR m a) := by
  unfold hitsP
  congr 1
  funext a
  generalize l = q
  induction q with
  | nil => rfl
  | cons b r ih =>
    rw [List.flatMap_cons, ← ih, List.filter_cons]
    unfold hitR
    by_cases h : a.id < b.id ∧ m.need ≤ score m a b
    · rw [if_pos (by simpa using h), if_pos h]; rfl
    · rw [if_neg (by simpa using h), if_neg h]; rfl
/-- What the pairs up to a place give. -/
def upto (m : Rule) (l : List Rd) (i j : Nat) : List (Int × Int) := ((l.take i).flatMap fun a => l.flatMap (hitR m a)) ++ (match l[i]? with | some x => (l.take j).flatMap (hitR m x) | none => [])
theorem upto_zero (m : Rule) (l : List Rd) (i : Nat) : upto m l i 0 = (l.take i).flatMap fun a => l.flatMap (hitR m a) := by
  unfold upto
  cases l[i]? <;> simp
theorem upto_row (m : Rule) {l : List Rd} {i : Nat} {x : Rd} (h : l[i]? = some x) : upto m l i l.length = upto m l (i + 1) 0 := by
  rw [upto_zero]
  unfold upto
  rw [h, List.take_add_one, h, List.flatMap_append, List.take_length]
  simp
theorem upto_succ (m : Rule) {l : List Rd} {i j : Nat} {x y : Rd} (h : l[i]? = some x) (hj : l[j]? = some y) : upto m l i (j + 1) = upto m l i j ++ hitR m x y := by
  unfold upto
  simp only [h]
  rw [List.take_add_one, hj, List.flatMap_append]
  simp
theorem mem_hitR {m : Rule} {a b : Rd} {z : Int × Int} (h : z ∈ hitR m a b) : z = (a.id, b.id) := by
  unfold hitR at h
  split at h
  · simpa using h
  · cases h
theorem upto_new {m : Rule} {l : List Rd} (hn : (ids l).Nodup) {i j : Nat} {x y : Rd} (h : l[i]? = some x) (hj : l[j]? = some y) : (x.id, y.id) ∉ Cp.puts ltP (upto m l i j) := by
  intro hm
  rw [Cp.puts_mem] at hm
  unfold upto at hm
  rw [h, List.mem_append, List.mem_flatMap, List.mem_flatMap] at hm
  rcases hm with ⟨a, ha, h2⟩ | ⟨b, hb, h2⟩
  · obtain ⟨b, _, h3⟩ := List.mem_flatMap.1 h2
    have h4 := mem_hitR h3
    injection h4 with h5 _
    obtain ⟨q, hq, eq⟩ := List.getElem_of_mem ha
    rw [List.length_take] at hq
    rw [List.getElem_take] at eq
    exact ids_ne hn h (by rw [← eq]; exact List.getElem?_eq_getElem (by omega) : l[q]? = some a) (by omega) h5
  · have h4 := mem_hitR h2
    injection h4 with _ h5
    obtain ⟨q, hq, eq⟩ := List.getElem_of_mem hb
    rw [List.length_take] at hq
    rw [List.getElem_take] at eq
    exact ids_ne hn hj (by rw [← eq]; exact List.getElem?_eq_getElem (by omega) : l[q]? = some b) (by omega) h5
theorem puts_app {α : Type} [DecidableEq α] (lt : α → α → Bool) (l : List α) : Cp.puts lt (l ++ []) = Cp.puts lt l := by rw [List.append_nil]
/-- Whether the pair at a place stands ahead of another one. -/
def tsP (L : List (Int × Int)) (p : Nat) (z : Int × Int) : Bool := (L[p]?).any fun y => ltP y z
theorem tsP_some {L : List (Int × Int)} {p : Nat} {y z : Int × Int} (h : L[p]? = some y) : tsP L p z = ltP y z := by unfold tsP; rw [h]; rfl
theorem tsP_none {L : List (Int × Int)} {p : Nat} {z : Int × Int} (h : L.length ≤ p) : tsP L p z = false := by unfold tsP; rw [List.getElem?_eq_none h]; rfl
theorem tsP_true {L : List (Int × Int)} {p : Nat} {z : Int × Int} (h : tsP L p z = true) : ∃ y, L[p]? = some y ∧ ltP y z = true := by
  unfold tsP at h
  cases hy : L[p]? with
  | none => rw [hy] at h; cases h
  | some y => rw [hy] at h; exact ⟨y, rfl, h⟩
theorem tsP_false {L : List (Int × Int)} {p : Nat} {y z : Int × Int} (h : tsP L p z = false) (hy : L[p]? = some y) : ltP y z = false := by rw [tsP_some hy] at h; exact h
end Mt

set_option maxHeartbeats 6400000 in
theorem r15_Pairs_c (m : Mt.Rule) (ka : Option Addr) (kc : Nat) (l : List Rc.Rd) (la : Option Addr) (lc : Nat) (w : World) (hK : Mt.KyA w ka kc m.keys) (hm : Mt.Gm m)
    (hl : Rc.RdA w la lc l) (hG : ∀ x ∈ l, Mt.Gf x.fields) (hn : (Mt.ids l).Nodup) (hll : l.length ≤ 1000) :
    Calls Tryz.prog 27 #[.agg #[.slice ka m.keys.length kc, .int .i64 m.need], .slice la l.length lc] w fun e w' => ∃ b o c, e = .returned (.slice (some ⟨b, o, none⟩) (Mt.pairs m l).length c) ∧ Br.FA Mt.enc2 2 w' (some ⟨b, o, none⟩) c (Mt.pairs m l) ∧ Below w.heap.size w w' := by
  have hml : maxLen = 9223372036854775807 := rfl
  obtain ⟨i0, hi0, hz0, hz1, hz2⟩ := info_parts info_pair
  have HI1 := Lib.hid hi0; clear hi0
  obtain ⟨W, hW⟩ : ∃ W, w.alloc (.cells #[.slice ka m.keys.length kc, .int .i64 m.need] 24) = W := ⟨_, rfl⟩
  have hB : Below w.heap.size w W := by rw [← hW]; exact Tx.newb w _
  have m0 : W.cell? ⟨w.heap.size, 0, none⟩ = some (.slice ka m.keys.length kc) := by rw [← hW]; simp
  have m1 : W.cell? ⟨w.heap.size, 1, none⟩ = some (.int .i64 m.need) := by rw [← hW]; simp
  have HL := Lib.hid (hl.below hB)
  have HK := Lib.hid (hK.below hB)
  have HG := Lib.hid hG
  have HM := Lib.hid hm
  have HN := Lib.hid hn
  have hcap := hl.cap
  have hmax := hl.max
  clear hl hK hG hm hn
  have hE : ∀ X (wx : World), Br.FA Mt.enc2 2 wx (some ⟨X, 0, none⟩) 0 [] := fun X wx => ⟨Nat.le_refl _, Nat.zero_le _, X, 0, fun h9 => absurd rfl h9, fun j i x u hx => by simp at hx⟩
  have HE := Lib.hid hE
  clear hE
  go_enter Tryz.func27, Tryz.ntmps27
  go_wp2
  clear hW
  go_loopw [5, 6] (fun s5 ii wr => ∃ (i : Nat) (L : List (Int × Int)) (b1 o1 c1 : Nat), i ≤ l.length ∧ ii = .int .i64 i ∧ s5 = .slice (some ⟨b1, o1, none⟩) L.length c1 ∧ Hid (Br.FA Mt.enc2 2 wr (some ⟨b1, o1, none⟩) c1 L) ∧ Hid (L = Cp.puts Mt.ltP (Mt.upto m l i 0)) ∧ L.length ≤ i * 1000 ∧ Below W.heap.size W wr) (fun _ i _ => l.length - (intOf i).toNat)
  case atStart => exact ⟨0, [], _, 0, 0, Nat.zero_le _, rfl, rfl, Lib.hid (HE.out _ _), Lib.hid (by rw [Mt.upto_zero]; rfl), Nat.le_refl _, Tx.newb _ _⟩
  case round =>
    obtain ⟨i, L, b1, o1, c1, hi, rfl, rfl, hf1, hL, hLi, hb⟩ := hrel
    by_cases hlt : i < l.length
    · obtain ⟨x, hx⟩ : ∃ x, l[i]? = some x := ⟨_, List.getElem?_eq_getElem hlt⟩
      obtain ⟨b, o, fa, fc, rfl, hbl, x0, x1, x2, x3, x4, hfx⟩ := HL.out.get hx
      have HFX := Lib.hid hfx
      have HX := Lib.hid hx
      clear hfx hx
      go_wp2
      go_loopw [5, 7] (fun s5 kk wr => ∃ (k : Nat) (L : List (Int × Int)) (b1 o1 c1 : Nat), k ≤ l.length ∧ kk = .int .i64 k ∧ s5 = .slice (some ⟨b1, o1, none⟩) L.length c1 ∧ Hid (Br.FA Mt.enc2 2 wr (some ⟨b1, o1, none⟩) c1 L) ∧ Hid (L = Cp.puts Mt.ltP (Mt.upto m l i k)) ∧ L.length ≤ i * 1000 + k ∧ Below W.heap.size W wr) (fun _ i _ => l.length - (intOf i).toNat)
      case atStart => exact ⟨0, L, b1, o1, c1, Nat.zero_le _, rfl, rfl, hf1, hL, by omega, hb⟩
      case round =>
        clear hf1 hL hLi hb
        obtain ⟨k, L, b1, o1, c1, hk, rfl, rfl, hf1, hL, hLk, hb⟩ := hrel
        have hcap1 := hf1.out.cap
        have hmax1 := hf1.out.max
        by_cases hlk : k < l.length
        · obtain ⟨y, hy⟩ : ∃ y, l[k]? = some y := ⟨_, List.getElem?_eq_getElem hlk⟩
          obtain ⟨b2, o2, ga, gc, e2, hbl2, y0, y1, y2, y3, y4, hfy⟩ := HL.out.get hy
          injection e2 with e2
          injection e2 with e2 e3
          subst e2 e3
          have p0 := cell_later hb x0
          have q0 := cell_later hb y0
          have hst := Mt.upto_succ m HX.out hy
          unfold Mt.hitR at hst
          have hni := Mt.upto_new (m := m) HN.out HX.out hy
          rw [← hL.out] at hni
          have HNI := Lib.hid hni
          have HFY := Lib.hid hfy
          have HY := Lib.hid hy
          clear hni hfy hy
          go_wp2
          go_quiet (fail)
          have hb1 := Tx.below_drewN (Below.refl wr.heap.size wr) nq
          generalize wr.drewN nq = w2 at hb1 ⊢
          have hb2 := Tx.step hb hb1
          have hf2 := Lib.hid (hf1.out.below hb1)
          clear hf1 hb1 p0 q0
          have n0 := cell_later hb2 m0
          have n1 := cell_later hb2 m1
          have p0 := cell_later hb2 x0
          have p1 := cell_later hb2 x1
          have p2 := cell_later hb2 x2
          have p3 := cell_later hb2 x3
          have p4 := cell_later hb2 x4
          have q0 := cell_later hb2 y0
          have q1 := cell_later hb2 y1
          have q2 := cell_later hb2 y2
          have q3 := cell_later hb2 y3
          have q4 := cell_later hb2 y4
          go_wp2
          by_cases hxy : x.id < y.id
          · obtain ⟨sc, hsc⟩ : ∃ sc, Mt.score m x y = sc := ⟨_, rfl⟩
            have HSC : Hid (∀ w', Below w2.heap.size w2 w' → Calls Tryz.prog 20 #[.agg #[.slice ka m.keys.length kc, .int .i64 m.need], .agg #[.int .i64 x.id, .int .i64 x.ver, .int .i64 x.kind, .string x.lang, .slice fa x.fields.length fc], .agg #[.int .i64 y.id, .int .i64 y.ver, .int .i64 y.kind, .string y.lang, .slice ga y.fields.length gc]] w' fun e w'' => e = .returned (.int .i64 sc) ∧ Below w'.heap.size w' w'') := Lib.hid (fun w' hb' => by
              have hc := r15_Score_c m ka kc x.fields fa fc x.id x.ver x.kind x.lang y.fields ga gc y.id y.ver y.kind y.lang w' ((HK.out.below hb2).below hb') HM.out ((HFX.out.below hb2).below hb') (HG.out x (List.mem_of_getElem? HX.out)) ((HFY.out.below hb2).below hb') (HG.out y (List.mem_of_getElem? HY.out))
              rw [← Mt.score_sum m x y, hsc] at hc
              exact hc)
            rw [hsc] at hst
            have hge : decide (x.id ≥ y.id) = false := decide_eq_false (by omega)
            clear hsc
            by_cases hnd : sc < m.need
            · rw [if_neg (fun h9 => by omega), List.append_nil] at hst
              have HS : Hid (L = Cp.puts Mt.ltP (Mt.upto m l i (k + 1))) := Lib.hid (by rw [hst]; exact hL.out)
              clear hst hL hxy
              go_region_held3 (fun w' => Below w2.heap.size w2 w' ∧ w'.cell? ⟨w.heap.size, 0, none⟩ = some (.slice ka m.keys.length kc) ∧ w'.cell? ⟨w.heap.size, 1, none⟩ = some (.int .i64 m.need) ∧ w'.cell? ⟨b, o + i * 5, none⟩ = some (.int .i64 x.id) ∧ w'.cell? ⟨b, o + i * 5 + 1, none⟩ = some (.int .i64 x.ver) ∧ w'.cell? ⟨b, o + i * 5 + 2, none⟩ = some (.int .i64 x.kind) ∧ w'.cell? ⟨b, o + i * 5 + 3, none⟩ = some (.string x.lang) ∧ w'.cell? ⟨b, o + i * 5 + 4, none⟩ = some (.slice fa x.fields.length fc) ∧ w'.cell? ⟨b, o + k * 5, none⟩ = some (.int .i64 y.id) ∧ w'.cell? ⟨b, o + k * 5 + 1, none⟩ = some (.int .i64 y.ver) ∧ w'.cell? ⟨b, o + k * 5 + 2, none⟩ = some (.int .i64 y.kind) ∧ w'.cell? ⟨b, o + k * 5 + 3, none⟩ = some (.string y.lang) ∧ w'.cell? ⟨b, o + k * 5 + 4, none⟩ = some (.slice ga y.fields.length gc))
                (first | exact ⟨(Below.refl _ _).drew, n0, n1, p0, p1, p2, p3, p4, q0, q1, q2, q3, q4⟩ | (go_split_ands; exact ⟨Tx.step (by assumption) hbx, cell_later hbx (by assumption), cell_later hbx (by assumption), cell_later hbx (by assumption), cell_later hbx (by assumption), cell_later hbx (by assumption), cell_later hbx (by assumption), cell_later hbx (by assumption), cell_later hbx (by assumption), cell_later hbx (by assumption), cell_later hbx (by assumption), cell_later hbx (by assumption), cell_later hbx (by assumption)⟩))
                (first
                  | (go_split_ands; go_at_call 20; ((with_reducible refine (HSC.out _ (by assumption)).mono ?_); rintro e wx ⟨rfl, hbx⟩)))
              go_split_ands
              have hb8 : Below w2.heap.size w2 wx := by assumption
              go_wp2
              go_roundw
              case rel => exact ⟨k + 1, L, b1, o1, c1, hlk, by go_num, rfl, Lib.hid (hf2.out.below hb8), HS, by omega, Tx.step hb2 hb8⟩
              case measure => simp [intOf]; omega
            · rw [if_pos ⟨hxy, by omega⟩] at hst
              have hput : Cp.puts Mt.ltP (Mt.upto m l i (k + 1)) = Cp.put Mt.ltP L (x.id, y.id) := by rw [hst, Mt.puts_snoc, ← hL.out]
              have HPUT := Lib.hid hput
              clear hst hL hput hxy
              go_region_held3 (fun w' => Below w2.heap.size w2 w' ∧ w'.cell? ⟨w.heap.size, 0, none⟩ = some (.slice ka m.keys.length kc) ∧ w'.cell? ⟨w.heap.size, 1, none⟩ = some (.int .i64 m.need) ∧ w'.cell? ⟨b, o + i * 5, none⟩ = some (.int .i64 x.id) ∧ w'.cell? ⟨b, o + i * 5 + 1, none⟩ = some (.int .i64 x.ver) ∧ w'.cell? ⟨b, o + i * 5 + 2, none⟩ = some (.int .i64 x.kind) ∧ w'.cell? ⟨b, o + i * 5 + 3, none⟩ = some (.string x.lang) ∧ w'.cell? ⟨b, o + i * 5 + 4, none⟩ = some (.slice fa x.fields.length fc) ∧ w'.cell? ⟨b, o + k * 5, none⟩ = some (.int .i64 y.id) ∧ w'.cell? ⟨b, o + k * 5 + 1, none⟩ = some (.int .i64 y.ver) ∧ w'.cell? ⟨b, o + k * 5 + 2, none⟩ = some (.int .i64 y.kind) ∧ w'.cell? ⟨b, o + k * 5 + 3, none⟩ = some (.string y.lang) ∧ w'.cell? ⟨b, o + k * 5 + 4, none⟩ = some (.slice ga y.fields.length gc))
                (first | exact ⟨(Below.refl _ _).drew, n0, n1, p0, p1, p2, p3, p4, q0, q1, q2, q3, q4⟩ | (go_split_ands; exact ⟨Tx.step (by assumption) hbx, cell_later hbx (by assumption), cell_later hbx (by assumption), cell_later hbx (by assumption), cell_later hbx (by assumption), cell_later hbx (by assumption), cell_later hbx (by assumption), cell_later hbx (by assumption), cell_later hbx (by assumption), cell_later hbx (by assumption), cell_later hbx (by assumption), cell_later hbx (by assumption), cell_later hbx (by assumption)⟩))
                (first
                  | (go_split_ands; go_at_call 20; ((with_reducible refine (HSC.out _ (by assumption)).mono ?_); rintro e wx ⟨rfl, hbx⟩)))
              go_split_ands
              have hb8 : Below w2.heap.size w2 wx := by assumption
              have h8W := Tx.step hb2 hb8
              have hf3 := Lib.hid (hf2.out.below hb8)
              clear hf2 HSC n0 n1 p0 p1 p2 p3 p4 q0 q1 q2 q3 q4
              go_wp2
              go_loopw [10] (fun i wr => ∃ p : Nat, p ≤ L.length ∧ i = .int .i64 p ∧ Hid (∀ j, j < p → ∀ z, L[j]? = some z → Mt.ltP z (x.id, y.id) = true) ∧ Below wx.heap.size wx wr) (fun i _ => L.length - (intOf i).toNat)
              case atStart => exact ⟨0, Nat.zero_le _, rfl, Lib.hid (fun j hj => absurd hj (Nat.not_lt_zero _)), Below.refl _ _⟩
              case round =>
                obtain ⟨p, hp, rfl, hE, hb5⟩ := hrel
                have hf4 := Lib.hid (hf3.out.below hb5)
                go_upto_region 11 with fail
                go_cut [82] (fun t wx => t = .bool (Mt.tsP L p (x.id, y.id)) ∧ wr = wx)
                case first =>
                  by_cases hpl : p < L.length
                  · obtain ⟨z, hz⟩ : ∃ z, L[p]? = some z := ⟨_, List.getElem?_eq_getElem hpl⟩
                    have HT : Hid (Mt.tsP L p (x.id, y.id) = Mt.ltP z (x.id, y.id)) := Lib.hid (Mt.tsP_some hz)
                    obtain ⟨bq1, oq1, e1, _, hc1⟩ := hf4.out.get hz
                    injection e1 with e1
                    injection e1 with e1 e1'
                    subst e1 e1'
                    have cz1 := hc1 0 _ rfl
                    have cz2 := hc1 1 _ rfl
                    rw [Nat.add_zero] at cz1
                    have hpi : (p : Int) < (L.length : Int) := by omega
                    have HF : Hid (Mt.ltP z (x.id, y.id) = (decide (z.1 < x.id) || (decide (z.1 = x.id) && decide (z.2 < y.id)))) := Lib.hid rfl
                    clear hc1 hz
                    rcases (by omega : z.1 < x.id ∨ (¬ z.1 < x.id ∧ z.1 ≠ x.id) ∨ (¬ z.1 < x.id ∧ z.1 = x.id ∧ z.2 < y.id) ∨ (¬ z.1 < x.id ∧ z.1 = x.id ∧ ¬ z.2 < y.id)) with g1 | ⟨g1, g2⟩ | ⟨g1, g2, g3⟩ | ⟨g1, g2, g3⟩
                    · have HB : Hid (Mt.tsP L p (x.id, y.id) = true) := Lib.hid (by rw [HT.out, HF.out]; simp; omega)
                      go_wp2_with fail
                      go_meet
                      exact ⟨by rw [HB.out], rfl⟩
                    · have HB : Hid (Mt.tsP L p (x.id, y.id) = false) := Lib.hid (by rw [HT.out, HF.out]; simp; omega)
                      have q2 : (z.1 == x.id) = false := beq_eq_false_iff_ne.2 g2
                      clear g2
                      go_wp2_with fail
                      go_meet
                      exact ⟨by rw [HB.out], rfl⟩
                    · have HB : Hid (Mt.tsP L p (x.id, y.id) = true) := Lib.hid (by rw [HT.out, HF.out]; simp; omega)
                      have q2 : (z.1 == x.id) = true := by rw [g2]; exact beq_self_eq_true _
                      clear g2
                      go_wp2_with fail
                      go_meet
                      exact ⟨by rw [HB.out], rfl⟩
                    · have HB : Hid (Mt.tsP L p (x.id, y.id) = false) := Lib.hid (by rw [HT.out, HF.out]; simp; omega)
                      have q2 : (z.1 == x.id) = true := by rw [g2]; exact beq_self_eq_true _
                      clear g2
                      go_wp2_with fail
                      go_meet
                      exact ⟨by rw [HB.out], rfl⟩
                  · have HB : Hid (Mt.tsP L p (x.id, y.id) = false) := Lib.hid (Mt.tsP_none (by omega))
                    have hpi : ¬ (p : Int) < (L.length : Int) := by omega
                    go_wp2_with fail
                    go_meet
                    exact ⟨by rw [HB.out], rfl⟩
                case rest =>
                  obtain ⟨rfl, hwr⟩ := hcut
                  obtain ⟨V7, hV7⟩ : ∃ V7, V7 = wc := ⟨_, rfl⟩
                  subst hV7
                  have hb6 : Below wx.heap.size wx V7 := by rw [← hwr]; exact hb5
                  have g1 := Lib.hid (hf3.out.below hb6)
                  clear hf4 hb5 hwr
                  cases htt : Mt.tsP L p (x.id, y.id) with
                  | true =>
                    obtain ⟨z, hz, hlt9⟩ := Mt.tsP_true htt
                    have hpl : p < L.length := (List.getElem?_eq_some_iff.1 hz).1
                    have HE2 : Hid (∀ j, j < p + 1 → ∀ z, L[j]? = some z → Mt.ltP z (x.id, y.id) = true) := Lib.hid (fun j hj q hq => by
                      rcases (by omega : j < p ∨ j = p) with h1 | h1
                      · exact hE.out j h1 q hq
                      · subst h1
                        rw [hz] at hq; injection hq with hq; rw [← hq]; exact hlt9)
                    clear htt hz hlt9
                    go_wp2
                    go_roundw
                    case rel => first | exact ⟨p + 1, hpl, by go_num, HE2, hb6⟩ | ((repeat apply Exists.intro); exact ⟨⟨p + 1, hpl, by go_num, HE2, hb6⟩, rfl⟩)
                    case measure => simp [intOf]; omega
                  | false =>
                    have hps := Cs.put_scan Mt.ltP (x.id, y.id) L p hp hE.out (fun z hz => Mt.tsP_false htt hz)
                    rw [if_neg (fun h9 => HNI.out (List.mem_of_getElem? h9))] at hps
                    have HPS := Lib.hid hps
                    have h6W := Tx.step h8W hb6
                    have hpL : p ≤ 1001000 := by omega
                    have hLL : L.length ≤ 1001000 := by omega
                    clear htt hps hE
                    go_wp2
                    have HLT : Hid (((L.take p).flatMap Mt.enc2).length = p * 2) := Lib.hid (by rw [Br.flat_len Mt.enc2 2 Mt.enc2_len, List.length_take, Nat.min_eq_left hp])
                    have HLD : Hid (((L.drop p).flatMap Mt.enc2).length = (L.length - p) * 2) := Lib.hid (by rw [Br.flat_len Mt.enc2 2 Mt.enc2_len, List.length_drop])
                    have FO : Hid (∀ u ∈ (L.take p).flatMap Mt.enc2, u.oneCell' = true) := Lib.hid (Br.flat_one Mt.enc2_one _)
                    have FO2 : Hid (∀ u ∈ (L.drop p).flatMap Mt.enc2, u.oneCell' = true) := Lib.hid (Br.flat_one Mt.enc2_one _)
                    have FT : Hid (∀ w', Below V7.heap.size V7 w' → ∀ j u, ((L.take p).flatMap Mt.enc2)[j]? = some u → w'.cell? ((⟨b1, o1, none⟩ : Addr).add j) = some u) := Lib.hid (fun w' h9 => g1.out.cellsT Mt.enc2_len (by decide) h9 p)
                    have FD : Hid (∀ w', Below V7.heap.size V7 w' → ∀ j u, ((L.drop p).flatMap Mt.enc2)[j]? = some u → w'.cell? ((⟨b1, o1 + p * 2, none⟩ : Addr).add j) = some u) := Lib.hid (fun w' h9 => g1.out.cellsD Mt.enc2_len (by decide) h9 p hp (o1 + p * 2) rfl)
                    have HM1 : Hid (0 + p ≤ maxLen) := Lib.hid (by unfold maxLen; omega)
                    have HM2 : Hid ((0 + p) * 16 ≤ 140737488355328) := Lib.hid (by omega)
                    have HM3 : Hid (0 + p + 1 ≤ maxLen) := Lib.hid (by unfold maxLen; omega)
                    have HM4 : Hid ((0 + p + 1) * 16 ≤ 140737488355328) := Lib.hid (by omega)
                    have HM5 : Hid (0 + p + 1 + (L.length - p) ≤ maxLen) := Lib.hid (by unfold maxLen; omega)
                    have HM6 : Hid ((0 + p + 1 + (L.length - p)) * 16 ≤ 140737488355328) := Lib.hid (by omega)
                    have HND : Hid (0 + p + 1 + (L.length - p) = L.length + 1) := Lib.hid (by omega)
                    have HVD : Hid ([] ++ (L.take p).flatMap Mt.enc2 ++ (Mt.enc2 (x.id, y.id)) ++ (L.drop p).flatMap Mt.enc2 = (L.take p ++ (x.id, y.id) :: L.drop p).flatMap Mt.enc2) := Lib.hid (by simp)
                    have HNE : Hid (p = L.length → 0 + p + 1 + 0 = L.length + 1) := Lib.hid (by omega)
                    have HVE : Hid (p = L.length → [] ++ (L.take p).flatMap Mt.enc2 ++ (Mt.enc2 (x.id, y.id)) ++ [] = (L.take p ++ (x.id, y.id) :: L.drop p).flatMap Mt.enc2) := Lib.hid (fun h9 => by rw [List.drop_of_length_le (by omega)]; simp)
                    have HLE : Hid ((L.take p ++ (x.id, y.id) :: L.drop p).length = L.length + 1) := Lib.hid (by simp; omega)
                    have HZ8 : Hid (L.length + 1 = (L.take p ++ (x.id, y.id) :: L.drop p).length) := Lib.hid (by simp; omega)
                    rcases (by omega : p < L.length ∨ (p = L.length ∧ L.length = c1) ∨ (p = L.length ∧ L.length < c1)) with hpc | ⟨hpc, hcc⟩ | ⟨hpc, hcc⟩
                    · have hq1 : (p : Int) ≤ (L.length : Int) := by omega
                      have hq2 : (p : Int) < (c1 : Int) := by omega
                      have hq3 : (p : Int) ≤ (c1 : Int) := by omega
                      have hq4 : p < c1 := by omega
                      have hq5 : ¬ c1 = p := by omega
                      go_region_law (first
                        | (refine Sq.step_append_z _ (by rfl) _ _ 50 (by rfl) V7.heap.size 59 i0 _ 2 16 Tryz.underlying50 HI1.out hz0 hz1 hz2 (by rfl) (by decide) _ (0 + p + 1) _ (by rfl) own2 _ (L.length - p) _ ((L.drop p).flatMap Mt.enc2) (by rfl) HLD.out (FD.out _ hb2) FO2.out HM5.out HM6.out hb2.size ?_; intro v3 w3 own3 hg3 hz3'; have hb3 := hb2.trans hz3')
                        | (refine Sq.step_append_z _ (by rfl) _ _ 50 (by rfl) V7.heap.size 59 i0 _ 2 16 Tryz.underlying50 HI1.out hz0 hz1 hz2 (by rfl) (by decide) _ (0 + p) _ (by rfl) (by first | exact own1 | exact own1.alloc _) _ 1 _ (Mt.enc2 (x.id, y.id)) (by rfl) (by rfl) (by first | exact hel | exact Br.cells_new_at _ _ (by first | rfl | simp) _ _) (Mt.enc2_one _) HM3.out HM4.out (by first | exact hb1.size | (have := hb1.size; simp; omega)) ?_; intro v2 w2 own2 hg2 hz2'; have hb2 : Below V7.heap.size _ w2 := Below.trans (by first | exact hb1 | exact hb1.alloc hb1.size _) hz2')
                        | (refine Sq.step_append_z _ (by rfl) _ _ 50 (by rfl) V7.heap.size 59 i0 _ 2 16 Tryz.underlying50 HI1.out hz0 hz1 hz2 (by rfl) (by decide) _ 0 [] (by rfl) (Sq.OwnZ.lit _ _ _ _ _) _ p _ ((L.take p).flatMap Mt.enc2) (by rfl) HLT.out (FT.out _ (by first | exact (Tx.newb _ _).drew | exact ((Tx.newb _ _).alloc (by simp) _).drew)) FO.out HM1.out HM2.out (by simp; try omega) ?_; intro v1 w1 own1 hg1 hz1'; have hb1 : Below V7.heap.size _ w1 := Below.trans (by first | exact (Tx.newb _ _).drew | exact ((Tx.newb _ _).alloc (by simp) _).drew) hz1'; (first | have hel := Sq.el1 hg1 | have hel := Sq.el2 hg1 | skip)))
                      all_goals
                        have ho8 := Lib.hid (Mt.own_cast own3 HND.out HVD.out)
                        have hb8 := hb3
                        clear own1 own2 own3 hg1 hg2 hg3 hz1' hz2' hz3' hb1 hb2 hb3
                        obtain ⟨b8, o8, c8, rfl, hf8⟩ := Sq.OwnZ.fa Mt.enc2_len ho8.out HZ8.out
                        have HF8 := Lib.hid hf8
                        clear hf8 ho8
                        go_wp2
                        go_roundw
                        case rel => exact ⟨k + 1, L.take p ++ (x.id, y.id) :: L.drop p, b8, o8, c8, hlk, by go_num, congrArg (fun n => Value.slice (some ⟨b8, o8, none⟩) n c8) (by first | (simp; done) | (simp; omega)), HF8, Lib.hid (by rw [HPUT.out, HPS.out]), by have := HLE.out; omega, Tx.step h6W hb8⟩
                        case measure => simp [intOf]; omega
                    · subst hpc
                      have HNE2 := Lib.hid (HNE.out rfl)
                      have HVE2 := Lib.hid (HVE.out rfl)
                      clear HNE HVE
                      obtain rfl := hcc
                      go_region_law (first
                        | (refine Sq.step_append_z _ (by rfl) _ _ 50 (by rfl) V7.heap.size 59 i0 _ 2 16 Tryz.underlying50 HI1.out hz0 hz1 hz2 (by rfl) (by decide) _ (0 + L.length + 1) _ (by rfl) own2 _ 0 _ [] (by rfl) (by rfl) (fun j u h9 => by simp at h9) (fun u h9 => by simp at h9) HM3.out HM4.out hb2.size ?_; intro v3 w3 own3 hg3 hz3'; have hb3 := hb2.trans hz3')
                        | (refine Sq.step_append_z _ (by rfl) _ _ 50 (by rfl) V7.heap.size 59 i0 _ 2 16 Tryz.underlying50 HI1.out hz0 hz1 hz2 (by rfl) (by decide) _ (0 + L.length) _ (by rfl) (by first | exact own1 | exact own1.alloc _) _ 1 _ (Mt.enc2 (x.id, y.id)) (by rfl) (by rfl) (by first | exact hel | exact Br.cells_new_at _ _ (by first | rfl | simp) _ _) (Mt.enc2_one _) HM3.out HM4.out (by first | exact hb1.size | (have := hb1.size; simp; omega)) ?_; intro v2 w2 own2 hg2 hz2'; have hb2 : Below V7.heap.size _ w2 := Below.trans (by first | exact hb1 | exact hb1.alloc hb1.size _) hz2')
                        | (refine Sq.step_append_z _ (by rfl) _ _ 50 (by rfl) V7.heap.size 59 i0 _ 2 16 Tryz.underlying50 HI1.out hz0 hz1 hz2 (by rfl) (by decide) _ 0 [] (by rfl) (Sq.OwnZ.lit _ _ _ _ _) _ L.length _ ((L.take L.length).flatMap Mt.enc2) (by rfl) HLT.out (FT.out _ (by first | exact (Tx.newb _ _).drew | exact ((Tx.newb _ _).alloc (by simp) _).drew)) FO.out HM1.out HM2.out (by simp; try omega) ?_; intro v1 w1 own1 hg1 hz1'; have hb1 : Below V7.heap.size _ w1 := Below.trans (by first | exact (Tx.newb _ _).drew | exact ((Tx.newb _ _).alloc (by simp) _).drew) hz1'; (first | have hel := Sq.el1 hg1 | have hel := Sq.el2 hg1 | skip)))
                      all_goals
                        have ho8 := Lib.hid (Mt.own_cast own3 HNE2.out HVE2.out)
                        have hb8 := hb3
                        clear own1 own2 own3 hg1 hg2 hg3 hz1' hz2' hz3' hb1 hb2 hb3
                        obtain ⟨b8, o8, c8, rfl, hf8⟩ := Sq.OwnZ.fa Mt.enc2_len ho8.out HZ8.out
                        have HF8 := Lib.hid hf8
                        clear hf8 ho8
                        go_wp2
                        go_roundw
                        case rel => exact ⟨k + 1, L.take L.length ++ (x.id, y.id) :: L.drop L.length, b8, o8, c8, hlk, by go_num, congrArg (fun n => Value.slice (some ⟨b8, o8, none⟩) n c8) (by first | (simp; done) | (simp; omega)), HF8, Lib.hid (by rw [HPUT.out, HPS.out]), by have := HLE.out; omega, Tx.step h6W hb8⟩
                        case measure => simp [intOf]; omega
                    · subst hpc
                      have HNE2 := Lib.hid (HNE.out rfl)
                      have HVE2 := Lib.hid (HVE.out rfl)
                      clear HNE HVE
                      have hq1 : (L.length : Int) < (c1 : Int) := by omega
                      have hq2 : (L.length : Int) ≤ (c1 : Int) := by omega
                      have hq5 : ¬ c1 = L.length := by omega
                      go_region_law (first
                        | (refine Sq.step_append_z _ (by rfl) _ _ 50 (by rfl) V7.heap.size 59 i0 _ 2 16 Tryz.underlying50 HI1.out hz0 hz1 hz2 (by rfl) (by decide) _ (0 + L.length + 1) _ (by rfl) own2 _ 0 _ [] (by rfl) (by rfl) (fun j u h9 => by simp at h9) (fun u h9 => by simp at h9) HM3.out HM4.out hb2.size ?_; intro v3 w3 own3 hg3 hz3'; have hb3 := hb2.trans hz3')
                        | (refine Sq.step_append_z _ (by rfl) _ _ 50 (by rfl) V7.heap.size 59 i0 _ 2 16 Tryz.underlying50 HI1.out hz0 hz1 hz2 (by rfl) (by decide) _ (0 + L.length) _ (by rfl) (by first | exact own1 | exact own1.alloc _) _ 1 _ (Mt.enc2 (x.id, y.id)) (by rfl) (by rfl) (by first | exact hel | exact Br.cells_new_at _ _ (by first | rfl | simp) _ _) (Mt.enc2_one _) HM3.out HM4.out (by first | exact hb1.size | (have := hb1.size; simp; omega)) ?_; intro v2 w2 own2 hg2 hz2'; have hb2 : Below V7.heap.size _ w2 := Below.trans (by first | exact hb1 | exact hb1.alloc hb1.size _) hz2')
                        | (refine Sq.step_append_z _ (by rfl) _ _ 50 (by rfl) V7.heap.size 59 i0 _ 2 16 Tryz.underlying50 HI1.out hz0 hz1 hz2 (by rfl) (by decide) _ 0 [] (by rfl) (Sq.OwnZ.lit _ _ _ _ _) _ L.length _ ((L.take L.length).flatMap Mt.enc2) (by rfl) HLT.out (FT.out _ (by first | exact (Tx.newb _ _).drew | exact ((Tx.newb _ _).alloc (by simp) _).drew)) FO.out HM1.out HM2.out (by simp; try omega) ?_; intro v1 w1 own1 hg1 hz1'; have hb1 : Below V7.heap.size _ w1 := Below.trans (by first | exact (Tx.newb _ _).drew | exact ((Tx.newb _ _).alloc (by simp) _).drew) hz1'; (first | have hel := Sq.el1 hg1 | have hel := Sq.el2 hg1 | skip)))
                      all_goals
                        have ho8 := Lib.hid (Mt.own_cast own3 HNE2.out HVE2.out)
                        have hb8 := hb3
                        clear own1 own2 own3 hg1 hg2 hg3 hz1' hz2' hz3' hb1 hb2 hb3
                        obtain ⟨b8, o8, c8, rfl, hf8⟩ := Sq.OwnZ.fa Mt.enc2_len ho8.out HZ8.out
                        have HF8 := Lib.hid hf8
                        clear hf8 ho8
                        go_wp2
                        go_roundw
                        case rel => exact ⟨k + 1, L.take L.length ++ (x.id, y.id) :: L.drop L.length, b8, o8, c8, hlk, by go_num, congrArg (fun n => Value.slice (some ⟨b8, o8, none⟩) n c8) (by first | (simp; done) | (simp; omega)), HF8, Lib.hid (by rw [HPUT.out, HPS.out]), by have := HLE.out; omega, Tx.step h6W hb8⟩
                        case measure => simp [intOf]; omega
          · rw [if_neg (fun h9 => hxy h9.1), List.append_nil] at hst
            have HS : Hid (L = Cp.puts Mt.ltP (Mt.upto m l i (k + 1))) := Lib.hid (by rw [hst]; exact hL.out)
            have hge : x.id ≥ y.id := by omega
            clear hst hL hxy
            go_quiet (fail)
            have hb8 := Tx.below_drewN (Below.refl w2.heap.size w2) nq
            generalize w2.drewN nq = wx at hb8 ⊢
            go_wp2
            go_roundw
            case rel => exact ⟨k + 1, L, b1, o1, c1, hlk, by go_num, rfl, Lib.hid (hf2.out.below hb8), HS, by omega, Tx.step hb2 hb8⟩
            case measure => simp [intOf]; omega
        · obtain rfl : k = l.length := by omega
          have HS : Hid (L = Cp.puts Mt.ltP (Mt.upto m l (i + 1) 0)) := Lib.hid (by rw [← Mt.upto_row m HX.out]; exact hL.out)
          clear hL
          go_wp2
          go_roundw
          case rel => exact ⟨i + 1, L, b1, o1, c1, hlt, by go_num, rfl, hf1, HS, by omega, hb⟩
          case measure => simp [intOf]; omega
    · obtain rfl : i = l.length := by omega
      have hfin : L = Mt.pairs m l := by
        rw [hL.out, Mt.upto_zero, List.take_length, ← Mt.hitsP_eq]; rfl
      have HFIN := Lib.hid hfin
      clear hfin hL
      go_wp2
      go_ret
      exact ⟨b1, o1, c1, by rw [HFIN.out]; rfl, by rw [← HFIN.out]; exact hf1.out, Tx.step hB hb⟩
end Go.Proofs.YtogpghpgnpoioaaGreatDoor
