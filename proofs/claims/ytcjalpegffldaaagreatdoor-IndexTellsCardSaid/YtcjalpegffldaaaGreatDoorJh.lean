/- The reference's Build: what the call returns. -/
import Derived.Test.YtcjalpegffldaaaGreatDoorJg
namespace Go.Proofs.YtcjalpegffldaaaGreatDoor
open Go.RowKit
set_option maxRecDepth 100000

namespace Ix
open Rc
/-- Where Build stands. -/
structure BldS (w wr : World) (T' : List PT) (a' : Option Addr) (c' : Nat) : Prop where
  hb : Below w.heap.size w wr
  k0 : wr.heap[w.heap.size]? = some (.cells #[.slice none 0 0] 34 (0, 0))
  kx : wr.heap[w.heap.size + 1]? = some (.cells #[.slice a' T'.length c'] 34 (0, 0))
  ps : PsA wr a' c' T'
  far0 : Far T' a' w.heap.size
  far1 : Far T' a' (w.heap.size + 1)
theorem BldS.below {w wr w' : World} {T' : List PT} {a' : Option Addr} {c' : Nat} (h : BldS w wr T' a' c') (hb : Below wr.heap.size wr w') : BldS w w' T' a' c' :=
  ⟨Tx.step h.hb hb, Tx.blk_later h.k0 hb, Tx.blk_later h.kx hb, h.ps.below hb, h.far0, h.far1⟩
theorem BldS.size {w wr : World} {T' : List PT} {a' : Option Addr} {c' : Nat} (h : BldS w wr T' a' c') : w.heap.size + 1 < wr.heap.size := (Array.getElem?_eq_some_iff.1 h.kx).1
theorem BldS.put {w wr w' : World} {T' T2 : List PT} {a' a2 : Option Addr} {c' c2 : Nat} (h : BldS w wr T' a' c') (hb : Below wr.heap.size wr w') (hp : PsA w' a2 c2 T2) (hf : ∀ Y, Y < wr.heap.size → Far T' a' Y → Far T2 a2 Y) :
    BldS w (w'.setCell ⟨w.heap.size + 1, 0, none⟩ (.slice a2 T2.length c2)) T2 a2 c2 := by
  have h' := h.below hb
  have hs := h.size
  have hs0 : ∀ k, k ≠ w.heap.size + 1 → (w'.setCell ⟨w.heap.size + 1, 0, none⟩ (.slice a2 T2.length c2)).heap[k]? = w'.heap[k]? := fun k hk => Below.heap_setCell w' ⟨w.heap.size + 1, 0, none⟩ _ k hk
  refine ⟨h'.hb.setCell (by simp) _, (hs0 _ (by omega)).trans h'.k0, ?_, ?_, hf _ (by omega) h.far0, hf _ (by omega) h.far1⟩
  · have := h'.kx
    simp [World.setCell, Array.getElem?_modify, this]
  · exact hp.set (hf _ (by omega) h.far1) 0 _
theorem met_map (rs : List Rd) (k : Nat) (r : Rd) : met rs k r = met rs k r := rfl
end Ix

set_option maxHeartbeats 3200000 in
theorem r20_Build_c (rs : List Rc.Rd) (a : Option Addr) (c : Nat) (w : World) (h : Rc.RdA w a c rs) (hn : rs.length ≤ 50) (hM : ∀ r ∈ rs, Ix.Mod r.fields) :
    Calls Tryz.prog 18 #[.slice a rs.length c] w fun e w' => (∃ a' c' T', e = .returned (.agg #[.slice a' (List.length T') c']) ∧ Ix.PsA w' a' c' T' ∧ T'.map (·.1) = Ix.build rs ∧ T'.length ≤ 50000000 ∧ Below w.heap.size w w') := by
  have hcap := h.cap
  obtain ⟨W, hW⟩ : ∃ W, (w.alloc (.cells #[.slice none 0 0] 34)).alloc (.cells #[.slice none 0 0] 34) = W := ⟨_, rfl⟩
  have hB : Below w.heap.size w W := by rw [← hW]; exact (Tx.newb _ _).alloc (by simp) _
  have hK0 : W.heap[w.heap.size]? = some (.cells #[.slice none 0 0] 34 (0, 0)) := by rw [← hW]; exact (hp_alloc_lt (by simp) _).trans (heap_alloc_new w _)
  have hK1 : W.heap[w.heap.size + 1]? = some (.cells #[.slice none 0 0] 34 (0, 0)) := by rw [← hW]; simpa using heap_alloc_new (w.alloc (.cells #[.slice none 0 0] 34)) (.cells #[.slice none 0 0] 34)
  have hP0 : ∀ w', Ix.PsA w' none 0 [] := fun w' => ⟨⟨Nat.le_refl _, by simp, 0, 0, fun h9 => absurd rfl h9, fun j i x u hx => by simp at hx⟩, fun t ht => by cases ht⟩
  have hfar : ∀ Y, Ix.Far [] none Y := fun Y => ⟨fun h9 => absurd rfl h9, fun t ht => by cases ht⟩
  have hS : Ix.BldS w (W.setCell ⟨w.heap.size + 1, 0, none⟩ (.slice none 0 0)) [] none 0 := (Ix.BldS.mk (T' := []) hB hK0 hK1 (hP0 _) (hfar _) (hfar _)).put (Below.refl _ _) (hP0 _) (fun Y _ _ => hfar Y)
  obtain ⟨xc, xf, xl⟩ := Tx.blk hK1
  clear hP0 hfar
  go_enter Tryz.func18, Tryz.ntmps18
  go_wp2
  clear hW hK0 hK1 xc xf xl hB
  go_loopw [4] (fun i wr => ∃ (k : Nat) (T' : List Ix.PT) (a' : Option Addr) (c' : Nat), k ≤ rs.length ∧ i = .int .i64 k ∧ Ix.BldS w wr T' a' c' ∧ Hid (T'.map (·.1) = Ix.bld rs k) ∧ T'.length ≤ k * 1000000) (fun i _ => rs.length - (intOf i).toNat)
  case atStart => exact ⟨0, [], none, 0, Nat.zero_le _, rfl, hS, Lib.hid rfl, Nat.zero_le _⟩
  case round =>
    obtain ⟨k, T', a', c', hk, rfl, hS', hE, hTl⟩ := hrel
    have hss := hS'.size
    obtain ⟨xc, xf, xl⟩ := Tx.blk hS'.kx
    obtain ⟨kc, kf, kl⟩ := Tx.blk hS'.k0
    by_cases hlt : k < rs.length
    · obtain ⟨r, hr⟩ : ∃ r, rs[k]? = some r := ⟨_, List.getElem?_eq_getElem hlt⟩
      have hbs := Ix.bld_succ hr
      have HMr := Lib.hid (hM r (List.mem_of_getElem? hr))
      have hR := h.below hS'.hb
      have CM : Hid (∀ v, Ix.met rs k r = v → Calls Tryz.prog 50 #[.slice a rs.length c, .int .i64 (k : Int)] wr fun e w'' => e = .returned (.bool v) ∧ Below wr.heap.size wr w'') := Lib.hid (fun v hv => by rw [← hv]; exact r20_met_c rs a c k r wr hR (by omega) hr)
      obtain ⟨b, o, fa, fc, rfl, hbl, d0, d1, d2, d3, d4, hF⟩ := h.get hr
      have HF := Lib.hid (hF.below hS'.hb)
      replace d0 := cell_later hS'.hb d0
      replace d1 := cell_later hS'.hb d1
      replace d2 := cell_later hS'.hb d2
      replace d3 := cell_later hS'.hb d3
      replace d4 := cell_later hS'.hb d4
      clear hF hR hr
      have hk0 : (0 : Int) ≤ (k : Int) := by omega
      have hkn : (k : Int) < (rs.length : Int) := by omega
      cases hm : Ix.met rs k r with
      | true =>
        rw [if_pos hm] at hbs
        have HN : Hid (T'.map (·.1) = Ix.bld rs (k + 1)) := Lib.hid (hE.out.trans hbs.symm)
        have HMT := Lib.hid hm
        clear hbs hm hE
        go_wp2_with (go_at_call 50; ((with_reducible refine (CM.out true HMT.out).mono ?_); rintro e w2 ⟨rfl, hb2⟩))
        have hl9 : T'.length ≤ (k + 1) * 1000000 := Nat.le_trans hTl (Nat.mul_le_mul_right _ (Nat.le_succ k))
        go_roundw
        case rel => exact ⟨k + 1, T', a', c', hlt, by go_num, hS'.below hb2, HN, hl9⟩
        case measure => simp [intOf]; omega
      | false =>
        rw [if_neg (by rw [hm]; decide)] at hbs
        have HMT := Lib.hid hm
        have HBS := Lib.hid hbs
        clear hbs hm
        go_wp2_with (go_at_call 50; ((with_reducible refine (CM.out false HMT.out).mono ?_); rintro e w2 ⟨rfl, hb2⟩; have hS2 := hS'.below hb2; obtain ⟨yc, yf, yl⟩ := Tx.blk hS2.kx; have e0 := cell_later hb2 d0; have e1 := cell_later hb2 d1; have e2 := cell_later hb2 d2; have e3 := cell_later hb2 d3; have e4 := cell_later hb2 d4))
        go_still_tail 5, (by kernel_rfl)
        change wpList _ _ _ _ _ w2.drew
        have hbq := (Below.refl w2.heap.size w2).drew
        generalize w2.drew = wq at hbq ⊢
        have hS3 := hS2.below hbq
        have hq9 := hbq.size
        go_wp2_with (go_at_call 30; ((with_reducible refine (r20_Add_c T' a' c' r fa fc _ hS3.ps (by omega) (HF.out.below (Tx.step hb2 hbq)) HMr.out).mono ?_); rintro e w5 ⟨a2, c2, T2, rfl, hps2, hmap2, hl2, hfar2, hb5⟩; have HMAP := Lib.hid hmap2; have hS5 := hS3.below hb5; obtain ⟨zc, zf, zl⟩ := Tx.blk hS5.kx; clear hmap2))
        have HN : Hid (T2.map (·.1) = Ix.bld rs (k + 1)) := Lib.hid (by rw [HMAP.out, HBS.out, hE.out])
        have hS9 := hS3.put hb5 hps2 hfar2
        have hl9 : T2.length ≤ (k + 1) * 1000000 := by omega
        go_roundw
        case rel => exact ⟨k + 1, T2, a2, c2, hlt, by go_num, hS9, HN, hl9⟩
        case measure => simp [intOf]; omega
    · obtain rfl : k = rs.length := by omega
      go_wp2
      refine bodyPost_ret (v := .agg #[.slice a' T'.length c']) (by simp [results, Tryz.results18, go_sem, kc]) rfl ⟨a', c', T', rfl, ?_, hE.out, by omega, ?_⟩
      · exact hS'.ps.set hS'.far0 _ _
      · exact hS'.hb.setCell (by simp) _

end Go.Proofs.YtcjalpegffldaaaGreatDoor

/- The reference's Right: what the call returns. -/
namespace Go.Proofs.YtcjalpegffldaaaGreatDoor
open Go.RowKit
set_option maxRecDepth 100000

namespace Ix
open Rc
def prv (T : List PT) : Nat → Option Post
  | 0 => none
  | k + 1 => (T[k]?).map (·.1)
theorem prv_pos {T : List PT} {k : Nat} (h : 0 < k) {q : PT} (hq : T[k - 1]? = some q) : prv T k = some q.1 := by
  cases k with
  | zero => omega
  | succ k => rw [prv, show k + 1 - 1 = k by omega] at *; rw [hq]; rfl
theorem ascF_drop {l : List Int} {m : Nat} {x y : Int} (h : l[m]? = some y) : ascF x (l.drop m) = (decide (x < y) && ascF y (l.drop (m + 1))) := by
  rw [drop_cons h, ascF]
theorem okP_false {p : Post} (h : p.fld < 0 ∨ 4 < p.fld ∨ p.word = [] ∨ p.id < 1 ∨ p.at_ = [] ∨ (∃ n r, p.at_ = n :: r ∧ n < 0)) : okP p = false := by
  unfold okP
  rcases h with h | h | h | h | h | ⟨n, r, h, hn⟩
  · rw [decide_eq_false (by omega : ¬ 0 ≤ p.fld)]; simp
  · rw [decide_eq_false (by omega : ¬ p.fld ≤ 4)]; simp
  · rw [h]; simp
  · rw [decide_eq_false (by omega : ¬ 1 ≤ p.id)]; simp
  · rw [h]; simp
  · rw [h, ascF, decide_eq_false (by omega : ¬ -1 < n)]; simp
theorem okP_true {p : Post} {n : Int} {r : List Int} (h1 : 0 ≤ p.fld) (h2 : p.fld ≤ 4) (h3 : p.word ≠ []) (h4 : 1 ≤ p.id) (h5 : p.at_ = n :: r) (h6 : 0 ≤ n) : okP p = ascF n r := by
  unfold okP
  rw [decide_eq_true h1, decide_eq_true h2, decide_eq_true h4, h5, ascF, decide_eq_true (by omega : (-1 : Int) < n)]
  simp [h3]
end Ix

set_option maxHeartbeats 6400000 in
theorem r20_Right_c (T : List Ix.PT) (a : Option Addr) (c : Nat) (w : World) (h : Ix.PsA w a c T) (hn : T.length ≤ 1000000000) :
    Calls Tryz.prog 20 #[.agg #[.slice a T.length c]] w fun e w' => e = .returned (.bool (Ix.right (T.map (·.1)))) ∧ Below w.heap.size w w' := by
  have hcap := h.fa.cap
  obtain ⟨W, hW⟩ : ∃ W, w.alloc (.cells #[.slice a T.length c] 34) = W := ⟨_, rfl⟩
  have hB : Below w.heap.size w W := by rw [← hW]; exact Tx.newb _ _
  have c0 : W.cell? ⟨w.heap.size, 0, none⟩ = some (.slice a T.length c) := by rw [← hW]; simp
  have HS := Lib.hid (h.below hB); clear h
  go_enter Tryz.func20, Tryz.ntmps20
  go_wp2
  clear hW
  go_loopw [3] (fun i wr => ∃ (k : Nat), k ≤ T.length ∧ i = .int .i64 k ∧ Hid (Ix.rightF (Ix.prv T k) ((T.drop k).map (·.1)) = Ix.right (T.map (·.1))) ∧ Below W.heap.size W wr) (fun i _ => T.length - (intOf i).toNat)
  case atStart => exact ⟨0, Nat.zero_le _, rfl, Lib.hid rfl, Below.refl _ _⟩
  case round =>
    obtain ⟨k, hk, rfl, hE, hb⟩ := hrel
    have hbs := hb.size
    replace c0 := cell_later hb c0
    by_cases hlt : k < T.length
    · obtain ⟨⟨y, ya, yc⟩, hy⟩ : ∃ y, T[k]? = some y := ⟨_, List.getElem?_eq_getElem hlt⟩
      have hdr := hE.out
      rw [Ix.drop_cons hy, List.map_cons, Ix.rightF_cons] at hdr
      have HE := Lib.hid hdr; clear hdr hE
      obtain ⟨b, o, rfl, hbl, g0, g1, g2, g3, hat⟩ := HS.out.get hy
      replace g0 := cell_later hb g0
      replace g1 := cell_later hb g1
      replace g2 := cell_later hb g2
      replace g3 := cell_later hb g3
      have HAT := Lib.hid hat
      clear hat
      simp only at g0 g1 g2 g3
      have hbN : Below wr.heap.size wr (wr.alloc (.cells #[.int .i64 y.fld, .string ⟨y.word.toArray⟩, .int .i64 y.id, .slice ya y.at_.length yc] 52)) := Tx.newb _ _
      have HB2 := Lib.hid (Tx.step (Tx.step hB hb) hbN)
      by_cases hx : y.fld < 0
      · have HF : Hid (Ix.right (T.map (·.1)) = false) := Lib.hid (by rw [← HE.out, Ix.okP_false (.inl hx)]; rfl)
        have f0 : decide (y.fld < 0) = true := by simpa using hx
        clear hx hy
        go_wp2
        go_ret
        exact ⟨by rw [HF.out]; rfl, HB2.out⟩
      have f0 : decide (y.fld < 0) = false := by simpa using hx
      have f0x := Lib.hid hx
      clear hx
      by_cases hx : 4 < y.fld
      · have HF : Hid (Ix.right (T.map (·.1)) = false) := Lib.hid (by rw [← HE.out, Ix.okP_false (.inr (.inl hx))]; rfl)
        have f1 : decide (4 < y.fld) = true := by simpa using hx
        clear hx hy
        go_wp2
        go_ret
        exact ⟨by rw [HF.out]; rfl, HB2.out⟩
      have f1 : decide (4 < y.fld) = false := by simpa using hx
      have f1x := Lib.hid hx
      clear hx
      by_cases hx : y.word = []
      · have HF : Hid (Ix.right (T.map (·.1)) = false) := Lib.hid (by rw [← HE.out, Ix.okP_false (.inr (.inr (.inl hx)))]; rfl)
        have f2 : (y.word == []) = true := by simpa using hx
        clear hx hy
        go_wp2
        go_ret
        exact ⟨by rw [HF.out]; rfl, HB2.out⟩
      have f2 : (y.word == []) = false := by simpa using hx
      have f2x := Lib.hid hx
      clear hx
      by_cases hx : y.id < 1
      · have HF : Hid (Ix.right (T.map (·.1)) = false) := Lib.hid (by rw [← HE.out, Ix.okP_false (.inr (.inr (.inr (.inl hx))))]; rfl)
        have f3 : decide (y.id < 1) = true := by simpa using hx
        clear hx hy
        go_wp2
        go_ret
        exact ⟨by rw [HF.out]; rfl, HB2.out⟩
      have f3 : decide (y.id < 1) = false := by simpa using hx
      have f3x := Lib.hid hx
      clear hx
      by_cases hx : y.at_ = []
      · have HF : Hid (Ix.right (T.map (·.1)) = false) := Lib.hid (by rw [← HE.out, Ix.okP_false (.inr (.inr (.inr (.inr (.inl hx)))))]; rfl)
        have f4 : ((y.at_.length : Int) == 0) = true := by simpa using hx
        clear hx hy
        go_wp2
        go_ret
        exact ⟨by rw [HF.out]; rfl, HB2.out⟩
      have f4 : ((y.at_.length : Int) == 0) = false := by simpa using hx
      have f4x := Lib.hid hx
      clear hx
      obtain ⟨n0, r0, hnr⟩ : ∃ n r, y.at_ = n :: r := by
        cases hz : y.at_ with
        | nil => exact absurd hz f4x.out
        | cons n r => exact ⟨n, r, rfl⟩
      have hl0 : 0 < y.at_.length := by rw [hnr]; simp
      obtain ⟨pb, po, rfl, hpb, p0⟩ := Ix.IA.cell HAT.out (k := 0) (x := n0) (by rw [hnr]; rfl)
      rw [Nat.add_zero] at p0
      replace p0 := cell_later hb p0
      have q0 := cell_later hbN p0
      by_cases hx : n0 < 0
      · have HF : Hid (Ix.right (T.map (·.1)) = false) := Lib.hid (by rw [← HE.out, Ix.okP_false (.inr (.inr (.inr (.inr (.inr ⟨n0, r0, hnr, hx⟩)))))]; rfl)
        have f5 : decide (n0 < 0) = true := by simpa using hx
        clear hx hy hnr
        go_wp2
        go_ret
        exact ⟨by rw [HF.out]; rfl, HB2.out⟩
      have f5 : decide (n0 < 0) = false := by simpa using hx
      have HOK : Hid (Ix.okP y = Ix.ascF n0 r0) := Lib.hid (Ix.okP_true (by have := f0x.out; omega) (by have := f1x.out; omega) f2x.out (by have := f3x.out; omega) hnr (by omega))
      have HNR := Lib.hid hnr
      have HPN : Hid (Ix.prv T (k + 1) = some y) := Lib.hid (by rw [Ix.prv, hy]; rfl)
      obtain ⟨W1, hW1⟩ : ∃ W1, wr.alloc (.cells #[.int .i64 y.fld, .string ⟨y.word.toArray⟩, .int .i64 y.id, .slice (some ⟨pb, po, none⟩) y.at_.length yc] 52) = W1 := ⟨_, rfl⟩
      have HKP1 : Hid (W1.heap[wr.heap.size]? = some (.cells #[.int .i64 y.fld, .string ⟨y.word.toArray⟩, .int .i64 y.id, .slice (some ⟨pb, po, none⟩) y.at_.length yc] 52 (0, 0))) := Lib.hid (by rw [← hW1]; exact heap_alloc_new _ _)
      have hb1 : Below wr.heap.size wr W1 := by rw [← hW1]; exact hbN
      have zc := (Tx.blk HKP1.out).1
      have z0 := cell_later hb1 p0
      clear hx hnr hy hbN
      rcases Nat.eq_zero_or_pos k with hk0 | hk0
      · subst hk0
        simp only [Nat.zero_mul, Nat.add_zero] at g0 g1 g2 g3
        have HPV : Hid (Ix.prevB (Ix.prv T 0) y = true) := Lib.hid rfl
        go_wp2
        clear hW1
        go_quiet (fail)
        have hbq := Tx.below_drewN (Below.refl W1.heap.size W1) nq
        have hb5 := Tx.step hb1 hbq
        generalize W1.drewN nq = w5 at *
        have HKP := Lib.hid (Tx.blk_later HKP1.out hbq)
        clear HKP1 zc hbq hb1
        go_wp2
        have HKP5 := HKP.out
        clear HKP
        have z3 : w5.cell? ⟨wr.heap.size, 3, none⟩ = some (.slice (some ⟨pb, po, none⟩) y.at_.length yc) := (Tx.blk HKP5).1 3
        have hpc := HAT.out.cap
        have hpm := HAT.out.max
        unfold maxLen at hpm
        have HPT : Hid (∀ (m : Nat) (x : Int), y.at_[m]? = some x → w5.cell? ⟨pb, po + m, none⟩ = some (.int .i64 x)) := Lib.hid (fun m x hx => by
          obtain ⟨b', o', e1, _, e2⟩ := Ix.IA.cell HAT.out hx
          injection e1 with e1
          injection e1 with e1 e3
          subst e1 e3
          exact cell_later (Tx.step hb hb5) e2)
        have hc5 : w5.cell? ⟨w.heap.size, 0, none⟩ = some (.slice (some ⟨b, o, none⟩) T.length c) := cell_later hb5 c0
        clear HKP5
        obtain ⟨wn, hwn⟩ : ∃ wn, wn = wr := ⟨_, rfl⟩
        subst hwn
        go_loopw [5] (fun j wr => ∃ (m : Nat) (x : Int), 1 ≤ m ∧ m ≤ y.at_.length ∧ j = .int .i64 m ∧ Hid (y.at_[m - 1]? = some x) ∧ Hid (Ix.ascF x (y.at_.drop m) = Ix.ascF n0 r0) ∧ Below w5.heap.size w5 wr) (fun j _ => y.at_.length - (intOf j).toNat)
        case atStart => exact ⟨1, n0, Nat.le_refl _, hl0, by go_num, Lib.hid (by rw [HNR.out]; rfl), Lib.hid (by rw [HNR.out]; rfl), Below.refl _ _⟩
        case round =>
          obtain ⟨m, x, hm1, hml, rfl, hmx, hA, hb6⟩ := hrel
          have hb6s := hb6.size
          replace z3 := cell_later hb6 z3
          replace hc5 := cell_later hb6 hc5
          by_cases hlt2 : m < y.at_.length
          · obtain ⟨n, hn2⟩ : ∃ n, y.at_[m]? = some n := ⟨_, List.getElem?_eq_getElem hlt2⟩
            have hA2 := hA.out
            rw [Ix.ascF_drop hn2] at hA2
            have e1 := cell_later hb6 (HPT.out m n hn2)
            have e2 := cell_later hb6 (HPT.out (m - 1) x hmx.out)
            have hw := IntWalk.i64_in ((m : Int) - 1) ⟨by omega, by omega⟩
            have hw2 : (m : Int) - 1 = ((m - 1 : Nat) : Int) := by omega
            rw [hw2] at hw
            have i1 : (m : Int) < (y.at_.length : Int) := by omega
            have i2 : (0 : Int) ≤ (m : Int) := by omega
            have i3 : ((m - 1 : Nat) : Int) < (y.at_.length : Int) := by omega
            have i4 : (0 : Int) ≤ ((m - 1 : Nat) : Int) := by omega
            have i5 : ((m - 1 : Nat) : Int).toNat = m - 1 := by omega
            have i6 : IntKind.i64.wrap ((m : Int) - 1) = ((m - 1 : Nat) : Int) := by rw [hw2]; exact hw
            clear hw hw2
            by_cases hxn : x < n
            · rw [decide_eq_true hxn, Bool.true_and] at hA2
              have HA2 := Lib.hid hA2
              have hd : decide (n ≤ x) = false := by simp; omega
              have HN2 := Lib.hid hn2
              clear hA2 hA hmx hn2 hxn
              go_wp2
              go_quiet (fail)
              go_wp2
              go_roundw
              case rel => exact ⟨m + 1, n, by omega, hlt2, by go_num, Lib.hid HN2.out, HA2, Tx.step hb6 (Tx.below_drewN (Below.refl wr.heap.size wr) nq)⟩
              case measure => simp [intOf]; omega
            · rw [decide_eq_false hxn, Bool.false_and] at hA2
              have HF : Hid (Ix.right (T.map (·.1)) = false) := Lib.hid (by rw [← HE.out, HOK.out, ← hA2]; rfl)
              have hd : decide (n ≤ x) = true := by simp; omega
              clear hA2 hA hmx hn2 hxn
              go_wp2
              go_quiet (fail)
              go_wp2
              go_ret
              exact ⟨by rw [HF.out]; rfl, Tx.step (Tx.step (Tx.step hB hb) hb5) (Tx.step hb6 (Tx.below_drewN (Below.refl wr.heap.size wr) nq))⟩
          · obtain rfl : m = y.at_.length := by omega
            have hA2 := hA.out
            rw [List.drop_length, Ix.ascF] at hA2
            have HN : Hid (Ix.rightF (Ix.prv T (0 + 1)) ((T.drop (0 + 1)).map (·.1)) = Ix.right (T.map (·.1))) := Lib.hid (by
              rw [← HE.out, HOK.out, ← hA2, HPV.out, HPN.out]; rfl)
            clear hA2 hA hmx
            go_wp2
            go_roundw
            case rel => exact ⟨0 + 1, hlt, by go_num, HN, Tx.step (Tx.step hb hb5) hb6⟩
            case measure => simp [intOf]; omega
      · obtain ⟨⟨q, qa, qc⟩, hq⟩ : ∃ q, T[k - 1]? = some q := ⟨_, List.getElem?_eq_getElem (by omega)⟩
        obtain ⟨b', o', e1, _, v0, v1, v2, v3, _⟩ := HS.out.get hq
        injection e1 with e1
        injection e1 with e1 e3
        subst e1 e3
        replace v0 := cell_later hb1 (cell_later hb v0)
        replace v1 := cell_later hb1 (cell_later hb v1)
        replace v2 := cell_later hb1 (cell_later hb v2)
        replace v3 := cell_later hb1 (cell_later hb v3)
        have u0 := cell_later hb1 c0
        simp only at v0 v1 v2 v3
        have hpp := Ix.prv_pos hk0 hq
        have hw := IntWalk.i64_in ((k : Int) - 1) ⟨by omega, by omega⟩
        have hw2 : (k : Int) - 1 = ((k - 1 : Nat) : Int) := by omega
        have i6 : IntKind.i64.wrap ((k : Int) - 1) = ((k - 1 : Nat) : Int) := by rw [hw, hw2]
        have i3 : ((k - 1 : Nat) : Int) < (T.length : Int) := by omega
        have i4 : (0 : Int) ≤ ((k - 1 : Nat) : Int) := by omega
        have i5 : ((k - 1 : Nat) : Int).toNat = k - 1 := by omega
        have i7 : decide ((0 : Int) < (k : Int)) = true := by simp; omega
        have i8 : decide (0 < k) = true := by simp; omega
        have HPP := Lib.hid hpp
        clear hw hw2 hpp hq
        have CB : Hid (∀ v w', Ix.ltK q y = v → Calls Tryz.prog 52 #[.agg #[.int .i64 q.fld, .string ⟨q.word.toArray⟩, .int .i64 q.id, .slice qa q.at_.length qc], .agg #[.int .i64 y.fld, .string ⟨y.word.toArray⟩, .int .i64 y.id, .slice (some ⟨pb, po, none⟩) y.at_.length yc]] w' fun e w'' => e = .returned (.bool v) ∧ Below w'.heap.size w' w'') := Lib.hid (fun v w' hv => by rw [← hv]; exact r20_before_c q y qa (some ⟨pb, po, none⟩) qc yc w')
        go_wp2
        clear hW1
        go_still_tail 10, (by kernel_rfl)
        change wpList _ _ _ _ _ W1.drew
        have hbq := (Below.refl W1.heap.size W1).drew
        generalize W1.drew = wq at hbq ⊢
        cases hlk : Ix.ltK q y with
        | false =>
          have HLK := Lib.hid hlk
          have HF : Hid (Ix.right (T.map (·.1)) = false) := Lib.hid (by rw [← HE.out, HPP.out, Ix.prevB, hlk, Bool.and_false]; rfl)
          clear hlk
          go_wp2_with (go_at_call 52; ((with_reducible refine (CB.out false _ HLK.out).mono ?_); rintro e w5 ⟨rfl, hb5x⟩))
          go_ret
          exact ⟨by rw [HF.out]; rfl, Tx.step (Tx.step hB hb) (Tx.step hb1 (Tx.step hbq hb5x))⟩
        | true =>
          have HLK := Lib.hid hlk
          have HPV : Hid (Ix.prevB (Ix.prv T k) y = true) := Lib.hid (by rw [HPP.out, Ix.prevB, hlk])
          clear hlk
          go_wp2_with (go_at_call 52; ((with_reducible refine (CB.out true _ HLK.out).mono ?_); rintro e w5 ⟨rfl, hb5x⟩; have hb5y := Tx.step hbq hb5x; have hb5 := Tx.step hb1 hb5y; have HKP := Lib.hid (Tx.blk_later HKP1.out hb5y)))
          clear HKP1 zc hb1 u0 v0 v1 v2 v3 i3 i4 i5 i6 i7 i8
          have HKP5 := HKP.out
          clear HKP
          have z3 : w5.cell? ⟨wr.heap.size, 3, none⟩ = some (.slice (some ⟨pb, po, none⟩) y.at_.length yc) := (Tx.blk HKP5).1 3
          have hpc := HAT.out.cap
          have hpm := HAT.out.max
          unfold maxLen at hpm
          have HPT : Hid (∀ (m : Nat) (x : Int), y.at_[m]? = some x → w5.cell? ⟨pb, po + m, none⟩ = some (.int .i64 x)) := Lib.hid (fun m x hx => by
            obtain ⟨b', o', e1, _, e2⟩ := Ix.IA.cell HAT.out hx
            injection e1 with e1
            injection e1 with e1 e3
            subst e1 e3
            exact cell_later (Tx.step hb hb5) e2)
          have hc5 : w5.cell? ⟨w.heap.size, 0, none⟩ = some (.slice (some ⟨b, o, none⟩) T.length c) := cell_later hb5 c0
          clear HKP5
          obtain ⟨wn, hwn⟩ : ∃ wn, wn = wr := ⟨_, rfl⟩
          subst hwn
          go_loopw [5] (fun j wr => ∃ (m : Nat) (x : Int), 1 ≤ m ∧ m ≤ y.at_.length ∧ j = .int .i64 m ∧ Hid (y.at_[m - 1]? = some x) ∧ Hid (Ix.ascF x (y.at_.drop m) = Ix.ascF n0 r0) ∧ Below w5.heap.size w5 wr) (fun j _ => y.at_.length - (intOf j).toNat)
          case atStart => exact ⟨1, n0, Nat.le_refl _, hl0, by go_num, Lib.hid (by rw [HNR.out]; rfl), Lib.hid (by rw [HNR.out]; rfl), Below.refl _ _⟩
          case round =>
            obtain ⟨m, x, hm1, hml, rfl, hmx, hA, hb6⟩ := hrel
            have hb6s := hb6.size
            replace z3 := cell_later hb6 z3
            replace hc5 := cell_later hb6 hc5
            by_cases hlt2 : m < y.at_.length
            · obtain ⟨n, hn2⟩ : ∃ n, y.at_[m]? = some n := ⟨_, List.getElem?_eq_getElem hlt2⟩
              have hA2 := hA.out
              rw [Ix.ascF_drop hn2] at hA2
              have e1 := cell_later hb6 (HPT.out m n hn2)
              have e2 := cell_later hb6 (HPT.out (m - 1) x hmx.out)
              have hw := IntWalk.i64_in ((m : Int) - 1) ⟨by omega, by omega⟩
              have hw2 : (m : Int) - 1 = ((m - 1 : Nat) : Int) := by omega
              rw [hw2] at hw
              have i1 : (m : Int) < (y.at_.length : Int) := by omega
              have i2 : (0 : Int) ≤ (m : Int) := by omega
              have i3 : ((m - 1 : Nat) : Int) < (y.at_.length : Int) := by omega
              have i4 : (0 : Int) ≤ ((m - 1 : Nat) : Int) := by omega
              have i5 : ((m - 1 : Nat) : Int).toNat = m - 1 := by omega
              have i6 : IntKind.i64.wrap ((m : Int) - 1) = ((m - 1 : Nat) : Int) := by rw [hw2]; exact hw
              clear hw hw2
              by_cases hxn : x < n
              · rw [decide_eq_true hxn, Bool.true_and] at hA2
                have HA2 := Lib.hid hA2
                have hd : decide (n ≤ x) = false := by simp; omega
                have HN2 := Lib.hid hn2
                clear hA2 hA hmx hn2 hxn
                go_wp2
                go_quiet (fail)
                go_wp2
                go_roundw
                case rel => exact ⟨m + 1, n, by omega, hlt2, by go_num, Lib.hid HN2.out, HA2, Tx.step hb6 (Tx.below_drewN (Below.refl wr.heap.size wr) nq)⟩
                case measure => simp [intOf]; omega
              · rw [decide_eq_false hxn, Bool.false_and] at hA2
                have HF : Hid (Ix.right (T.map (·.1)) = false) := Lib.hid (by rw [← HE.out, HOK.out, ← hA2]; rfl)
                have hd : decide (n ≤ x) = true := by simp; omega
                clear hA2 hA hmx hn2 hxn
                go_wp2
                go_quiet (fail)
                go_wp2
                go_ret
                exact ⟨by rw [HF.out]; rfl, Tx.step (Tx.step (Tx.step hB hb) hb5) (Tx.step hb6 (Tx.below_drewN (Below.refl wr.heap.size wr) nq))⟩
            · obtain rfl : m = y.at_.length := by omega
              have hA2 := hA.out
              rw [List.drop_length, Ix.ascF] at hA2
              have HN : Hid (Ix.rightF (Ix.prv T (k + 1)) ((T.drop (k + 1)).map (·.1)) = Ix.right (T.map (·.1))) := Lib.hid (by
                rw [← HE.out, HOK.out, ← hA2, HPV.out, HPN.out]; rfl)
              clear hA2 hA hmx
              go_wp2
              go_roundw
              case rel => exact ⟨k + 1, hlt, by go_num, HN, Tx.step (Tx.step hb hb5) hb6⟩
              case measure => simp [intOf]; omega
    · obtain rfl : k = T.length := by omega
      have hN := hE.out
      rw [List.drop_length] at hN
      have HN := Lib.hid hN; clear hN hE
      go_wp2
      go_ret
      exact ⟨by rw [← HN.out]; rfl, Tx.step hB hb⟩

end Go.Proofs.YtcjalpegffldaaaGreatDoor

/- The reference's insert, Word and Prefix: what the calls return. -/
namespace Go.Proofs.YtcjalpegffldaaaGreatDoor
open Go.RowKit
set_option maxRecDepth 100000

namespace Ix
open Rc
/-- Numbers that a call owns. -/
abbrev OwnI (w' : World) (B : Nat) (v : Value) (l : List Int) : Prop := w'.ownsRow B 3 1 v l.length (l.map (Value.int .i64))
theorem ownI_snoc {w : World} {B : Nat} {v : Value} {l : List Int} {n : Int} (h : w.ownsRow B 3 1 v (l.length + 1) (l.map (Value.int .i64) ++ [.int .i64 n])) : OwnI w B v (l ++ [n]) := by
  unfold OwnI
  rw [List.length_append, List.map_append]
  exact h
theorem put_drop {xs : List Int} {k : Nat} {x : Int} (n : Int) (h : xs[k]? = some x) : Cp.put Cp.ltI (xs.drop k) n = if x < n then x :: Cp.put Cp.ltI (xs.drop (k + 1)) n else if x = n then x :: xs.drop (k + 1) else n :: x :: xs.drop (k + 1) := by
  rw [drop_cons h, Cp.put]
  unfold Cp.ltI
  simp only [decide_eq_true_eq]
theorem puts_snoc (l : List Int) (x : Int) : Cp.puts Cp.ltI (l ++ [x]) = Cp.put Cp.ltI (Cp.puts Cp.ltI l) x := by
  unfold Cp.puts
  rw [List.foldl_append]
  rfl
theorem put_len (n : Int) : ∀ xs : List Int, (Cp.put Cp.ltI xs n).length ≤ xs.length + 1
  | [] => by simp [Cp.put]
  | y :: r => by
    have := put_len n r
    unfold Cp.put
    split
    · simp; omega
    · split <;> simp
theorem foldl_put_len : ∀ (l acc : List Int), (l.foldl (Cp.put Cp.ltI) acc).length ≤ acc.length + l.length
  | [], acc => Nat.le_refl _
  | x :: l, acc => by
    have h1 := foldl_put_len l (Cp.put Cp.ltI acc x)
    have h2 := put_len x acc
    rw [List.foldl_cons, List.length_cons]
    omega
theorem puts_len (l : List Int) : (Cp.puts Cp.ltI l).length ≤ l.length := by
  have := foldl_put_len l []
  unfold Cp.puts
  simpa using this
/-- The IDs of the posts that are wanted. -/
def idsT (p : Post → Bool) (T : List PT) : List Int := (T.filter fun t => p t.1).map fun t => t.1.id
theorem idsT_map (p : Post → Bool) (T : List PT) : ((T.map (·.1)).filter p).map (·.id) = idsT p T := by
  unfold idsT
  rw [List.filter_map, List.map_map]
  rfl
theorem idsT_take {p : Post → Bool} {T : List PT} {k : Nat} {t : PT} (h : T[k]? = some t) : idsT p (T.take (k + 1)) = idsT p (T.take k) ++ (if p t.1 = true then [t.1.id] else []) := by
  unfold idsT
  rw [take_snoc h, List.filter_append, List.map_append]
  congr 1
  by_cases hp : p t.1 = true <;> simp [hp]
theorem idsT_len (p : Post → Bool) (T : List PT) : (idsT p T).length ≤ T.length := by
  unfold idsT
  rw [List.length_map]
  exact List.length_filter_le _ _
def wordP (f : Int) (s : By) (p : Post) : Bool := decide (p.fld = f) && (p.word == s)
def prefP (f : Int) (s : By) (p : Post) : Bool := !(s == []) && (decide (p.fld = f) && begP s p.word)
theorem begP_short {s w : By} (h : w.length < s.length) : begP s w = false := by
  unfold begP
  rw [List.take_of_length_le (by omega), beq_eq_false_iff_ne]
  intro e
  rw [e] at h
  omega
theorem word_T (T : List PT) (f : Int) (s : By) : word (T.map (·.1)) f s = Cp.puts Cp.ltI (idsT (wordP f s) T) := by
  unfold word
  rw [← idsT_map]
  rfl
theorem prefix_T (T : List PT) (f : Int) (s : By) : prefix_ (T.map (·.1)) f s = Cp.puts Cp.ltI (idsT (prefP f s) T) := by
  unfold prefix_
  rw [← idsT_map]
  rfl
end Ix

set_option maxHeartbeats 3200000 in
theorem r20_insert_c (xs : List Int) (n : Int) (a : Option Addr) (c : Nat) (w : World) (h : Ix.IA w a c xs) (hn : xs.length ≤ 1000000000) :
    Calls Tryz.prog 55 #[.slice a xs.length c, .int .i64 n] w fun e w' => ∃ v, e = .returned v ∧ Ix.OwnI w' w.heap.size v (Cp.put Cp.ltI xs n) ∧ Below w.heap.size w w' := by
  obtain ⟨i0, hi0, hz0, hz1, hz2⟩ := info_parts info_int
  have HI := Lib.hid hi0; clear hi0
  have hcap := h.cap
  have HS := Lib.hid h; clear h
  go_enter Tryz.func55, Tryz.ntmps55
  go_wp2
  go_loopw [5, 6, 7] (fun v d i wr => ∃ (k : Nat) (L : List Int) (d0 : Bool), k ≤ xs.length ∧ i = .int .i64 k ∧ d = .bool d0 ∧ Hid (L ++ (if d0 = true then xs.drop k else Cp.put Cp.ltI (xs.drop k) n) = Cp.put Cp.ltI xs n) ∧ L.length ≤ 2 * k ∧ Ix.OwnI wr w.heap.size v L ∧ Below w.heap.size w wr) (fun _ _ i _ => xs.length - (intOf i).toNat)
  case atStart => exact ⟨0, [], false, Nat.zero_le _, rfl, rfl, Lib.hid (by simp), by simp, World.ownsRow_nil _ _ _ _, Below.refl _ _⟩
  case round =>
    obtain ⟨k, L, d, hk, rfl, rfl, hE, hL, hown, hb⟩ := hrel
    have hbs := hb.size
    have HK : Hid (L.length ≤ 2000000000) := Lib.hid (by omega)
    by_cases hlt : k < xs.length
    · obtain ⟨y, hy⟩ : ∃ y, xs[k]? = some y := ⟨_, List.getElem?_eq_getElem hlt⟩
      have hpd := Ix.put_drop n hy
      have hdr := Ix.drop_cons hy
      obtain ⟨b, o, rfl, hbl, f0⟩ := Ix.IA.cell HS.out hy
      have e0 := cell_later hb f0
      clear hy
      cases d with
      | true =>
        have HN : Hid ((L ++ [y]) ++ (if true = true then xs.drop (k + 1) else Cp.put Cp.ltI (xs.drop (k + 1)) n) = Cp.put Cp.ltI xs n) := Lib.hid (by
          rw [← hE.out, if_pos rfl, if_pos rfl, hdr, List.append_assoc]; rfl)
        clear hdr hE hpd
        cases hq : (y == n)
        all_goals
          go_wp2_with (at_builtin; go_must (refine wpList_append_sl rfl _ _ 41 rfl w.heap.size 3 i0 _ 1 8 Tryz.underlying41 HI.out hz0 hz1 hz2 rfl (by decide) _ (L.length) _ rfl (hown.alloc _) (some ⟨_, 0, none⟩) 1 1 [.int .i64 y] rfl rfl (fun h9 => by cases h9) (fun ad had => by cases had; exact Br.cells_new_at _ _ (by first | rfl | simp) _ _) (by simp [Value.oneCell']) (by unfold maxLen; have := HK.out; omega) (by have := HK.out; omega) (by simp; omega) ?_); intro v7 w7 hown7 hg7 hnil7)
          go_roundw
          case rel => exact ⟨k + 1, L ++ [y], true, hlt, by go_num, rfl, HN, by simp; omega, Ix.ownI_snoc hown7, (hb.alloc hbs _).grown hg7 (by simp; omega) (fun j hj => (hown.lt j hj).1)⟩
          case measure => simp [intOf]; omega
      | false =>
        by_cases h1 : y < n
        · have HN : Hid ((L ++ [y]) ++ (if false = true then xs.drop (k + 1) else Cp.put Cp.ltI (xs.drop (k + 1)) n) = Cp.put Cp.ltI xs n) := Lib.hid (by
            rw [← hE.out, if_neg (by decide), if_neg (by decide), hpd, if_pos h1, List.append_assoc]; rfl)
          have t1 : (y == n) = false := by rw [beq_eq_false_iff_ne]; omega
          have t2 : decide (n < y) = false := by simp; omega
          clear hdr hE hpd h1
          go_wp2_with (at_builtin; go_must (refine wpList_append_sl rfl _ _ 41 rfl w.heap.size 3 i0 _ 1 8 Tryz.underlying41 HI.out hz0 hz1 hz2 rfl (by decide) _ (L.length) _ rfl (hown.alloc _) (some ⟨_, 0, none⟩) 1 1 [.int .i64 y] rfl rfl (fun h9 => by cases h9) (fun ad had => by cases had; exact Br.cells_new_at _ _ (by first | rfl | simp) _ _) (by simp [Value.oneCell']) (by unfold maxLen; have := HK.out; omega) (by have := HK.out; omega) (by simp; omega) ?_); intro v7 w7 hown7 hg7 hnil7)
          go_roundw
          case rel => exact ⟨k + 1, L ++ [y], false, hlt, by go_num, rfl, HN, by simp; omega, Ix.ownI_snoc hown7, (hb.alloc hbs _).grown hg7 (by simp; omega) (fun j hj => (hown.lt j hj).1)⟩
          case measure => simp [intOf]; omega
        · by_cases h2 : y = n
          · have HN : Hid ((L ++ [y]) ++ (if true = true then xs.drop (k + 1) else Cp.put Cp.ltI (xs.drop (k + 1)) n) = Cp.put Cp.ltI xs n) := Lib.hid (by
              rw [← hE.out, if_pos rfl, if_neg (by decide), hpd, if_neg h1, if_pos h2, List.append_assoc]; rfl)
            have t1 : (y == n) = true := by rw [beq_iff_eq]; exact h2
            clear hdr hE hpd h1 h2
            go_wp2_with (at_builtin; go_must (refine wpList_append_sl rfl _ _ 41 rfl w.heap.size 3 i0 _ 1 8 Tryz.underlying41 HI.out hz0 hz1 hz2 rfl (by decide) _ (L.length) _ rfl (hown.alloc _) (some ⟨_, 0, none⟩) 1 1 [.int .i64 y] rfl rfl (fun h9 => by cases h9) (fun ad had => by cases had; exact Br.cells_new_at _ _ (by first | rfl | simp) _ _) (by simp [Value.oneCell']) (by unfold maxLen; have := HK.out; omega) (by have := HK.out; omega) (by simp; omega) ?_); intro v7 w7 hown7 hg7 hnil7)
            go_roundw
            case rel => exact ⟨k + 1, L ++ [y], true, hlt, by go_num, rfl, HN, by simp; omega, Ix.ownI_snoc hown7, (hb.alloc hbs _).grown hg7 (by simp; omega) (fun j hj => (hown.lt j hj).1)⟩
            case measure => simp [intOf]; omega
          · have HN : Hid (((L ++ [n]) ++ [y]) ++ (if true = true then xs.drop (k + 1) else Cp.put Cp.ltI (xs.drop (k + 1)) n) = Cp.put Cp.ltI xs n) := Lib.hid (by
              rw [← hE.out, if_pos rfl, if_neg (by decide), hpd, if_neg h1, if_neg h2, List.append_assoc, List.append_assoc]; rfl)
            have t1 : (y == n) = false := by rw [beq_eq_false_iff_ne]; exact h2
            have t2 : decide (n < y) = true := by simp; omega
            have HK2 : Hid ((L ++ [n]).length ≤ 2000000001) := Lib.hid (by rw [List.length_append]; simp; have := HK.out; omega)
            clear hdr hE hpd h1 h2
            go_wp2_with (first
              | (at_builtin; refine wpList_append_sl rfl _ _ 41 rfl w.heap.size 3 i0 _ 1 8 Tryz.underlying41 HI.out hz0 hz1 hz2 rfl (by decide) _ ((L ++ [n]).length) _ rfl ((Ix.ownI_snoc hown7).alloc _) (some ⟨_, 0, none⟩) 1 1 [.int .i64 y] rfl rfl (fun h9 => by cases h9) (fun ad had => by cases had; exact Br.cells_new_at _ _ (by first | rfl | simp) _ _) (by simp [Value.oneCell']) (by unfold maxLen; have := HK2.out; omega) (by have := HK2.out; omega) (by simp; omega) ?_; intro v8 w8 hown8 hg8 hnil8; have hb8 : Below w.heap.size w w8 := (hb7.alloc hb7.size _).grown hg8 (by simp; omega) (fun j hj => (hown7.lt j hj).1))
              | (at_builtin; go_must (refine wpList_append_sl rfl _ _ 41 rfl w.heap.size 3 i0 _ 1 8 Tryz.underlying41 HI.out hz0 hz1 hz2 rfl (by decide) _ (L.length) _ rfl (hown.alloc _) (some ⟨_, 0, none⟩) 1 1 [.int .i64 n] rfl rfl (fun h9 => by cases h9) (fun ad had => by cases had; exact Br.cells_new_at _ _ (by first | rfl | simp) _ _) (by simp [Value.oneCell']) (by unfold maxLen; have := HK.out; omega) (by have := HK.out; omega) (by simp; omega) ?_); intro v7 w7 hown7 hg7 hnil7; have hb7 : Below w.heap.size w w7 := (hb.alloc hbs _).grown hg7 (by simp; omega) (fun j hj => (hown.lt j hj).1); have hb7s := hb7.size; have p0 := cell_later hb7 f0))
            go_roundw
            case rel => exact ⟨k + 1, (L ++ [n]) ++ [y], true, hlt, by go_num, rfl, HN, by simp; omega, Ix.ownI_snoc hown8, hb8⟩
            case measure => simp [intOf]; omega
    · obtain rfl : k = xs.length := by omega
      cases d with
      | true =>
        have HN := Lib.hid hE.out
        rw [if_pos rfl, List.drop_length, List.append_nil] at HN
        go_wp2
        go_ret
        exact ⟨_, rfl, by rw [← HN.out]; exact hown, hb⟩
      | false =>
        have HN := Lib.hid hE.out
        rw [if_neg (by decide), List.drop_length, Cp.put] at HN
        go_wp2_with (at_builtin; go_must (refine wpList_append_sl rfl _ _ 41 rfl w.heap.size 3 i0 _ 1 8 Tryz.underlying41 HI.out hz0 hz1 hz2 rfl (by decide) _ (L.length) _ rfl (hown.alloc _) (some ⟨_, 0, none⟩) 1 1 [.int .i64 n] rfl rfl (fun h9 => by cases h9) (fun ad had => by cases had; exact Br.cells_new_at _ _ (by first | rfl | simp) _ _) (by simp [Value.oneCell']) (by unfold maxLen; have := HK.out; omega) (by have := HK.out; omega) (by simp; omega) ?_); intro v7 w7 hown7 hg7 hnil7)
        go_ret
        exact ⟨_, rfl, by rw [← HN.out]; exact Ix.ownI_snoc hown7, (hb.alloc hbs _).grown hg7 (by simp; omega) (fun j hj => (hown.lt j hj).1)⟩

set_option maxHeartbeats 3200000 in
theorem r20_Word_c (T : List Ix.PT) (a : Option Addr) (c : Nat) (f : Int) (s : Ix.By) (w : World) (h : Ix.PsA w a c T) (hn : T.length ≤ 1000000000)  :
    Calls Tryz.prog 23 #[.agg #[.slice a T.length c], .int .i64 f, .string ⟨s.toArray⟩] w fun e w' => ∃ v, e = .returned v ∧ Ix.OwnI w' w.heap.size v (Cp.puts Cp.ltI (Ix.idsT (Ix.wordP f s) T)) ∧ Below w.heap.size w w' := by
  have hcap := h.fa.cap
  obtain ⟨W, hW⟩ : ∃ W, w.alloc (.cells #[.slice a T.length c] 34) = W := ⟨_, rfl⟩
  have hB : Below w.heap.size w W := by rw [← hW]; exact Tx.newb _ _
  have c0 : W.cell? ⟨w.heap.size, 0, none⟩ = some (.slice a T.length c) := by rw [← hW]; simp
  have HS := Lib.hid (h.below hB); clear h
  have hbB := hB.size
  go_enter Tryz.func23, Tryz.ntmps23
  go_wp2
  clear hW
  go_loopw [7, 8] (fun v i wr => ∃ (k : Nat), k ≤ T.length ∧ i = .int .i64 k ∧ Ix.OwnI wr W.heap.size v (Cp.puts Cp.ltI (Ix.idsT (Ix.wordP f s) (T.take k))) ∧ Below W.heap.size W wr) (fun _ i _ => T.length - (intOf i).toNat)
  case atStart => exact ⟨0, Nat.zero_le _, rfl, World.ownsRow_nil _ _ _ _, Below.refl _ _⟩
  case round =>
    obtain ⟨k, hk, rfl, hown, hb⟩ := hrel
    have hbs := hb.size
    replace c0 := cell_later hb c0
    by_cases hlt : k < T.length
    · obtain ⟨⟨y, ya, yc⟩, hy⟩ : ∃ y, T[k]? = some y := ⟨_, List.getElem?_eq_getElem hlt⟩
      have hit := Ix.idsT_take (p := Ix.wordP f s) hy
      obtain ⟨b, o, rfl, hbl, g0, g1, g2, g3, _⟩ := HS.out.get hy
      simp only at g0 g1 g2 g3 hit
      replace g0 := cell_later hb g0
      replace g1 := cell_later hb g1
      replace g2 := cell_later hb g2
      have hpl := Ix.puts_len (Ix.idsT (Ix.wordP f s) (T.take k))
      have hpl2 := Ix.idsT_len (Ix.wordP f s) (T.take k)
      rw [List.length_take] at hpl2
      obtain ⟨L, hL⟩ : ∃ L, Cp.puts Cp.ltI (Ix.idsT (Ix.wordP f s) (T.take k)) = L := ⟨_, rfl⟩
      have HL := Lib.hid hL
      rw [hL] at hown hpl
      have hpl3 : L.length ≤ 1000000000 := by omega
      obtain ⟨oa, oc, rfl, hio, _⟩ := Ix.IA.of_own hown rfl
      have HIO := Lib.hid hio
      clear hio hpl hpl2 hL hy
      by_cases hx0 : ¬ y.fld = f
      · have t0 : (y.fld == f) = false := by simpa using hx0
        have hP : Ix.wordP f s y = false := by unfold Ix.wordP; simp [hx0]
        clear hx0
        rw [if_neg (by rw [hP]; decide), List.append_nil] at hit
        have HP : Hid (Cp.puts Cp.ltI (Ix.idsT (Ix.wordP f s) (T.take (k + 1))) = L) := Lib.hid (by rw [hit, HL.out])
        clear hit hP
        go_wp2
        go_roundw
        case rel => exact ⟨k + 1, hlt, by go_num, by rw [HP.out]; exact hown, hb⟩
        case measure => simp [intOf]; omega
      have t0 : (y.fld == f) = true := by simpa using hx0
      by_cases hx1 : ¬ y.word = s
      · have t1 : (y.word == s) = false := by simpa using hx1
        have hP : Ix.wordP f s y = false := by unfold Ix.wordP; simp [hx1]
        clear hx0 hx1
        rw [if_neg (by rw [hP]; decide), List.append_nil] at hit
        have HP : Hid (Cp.puts Cp.ltI (Ix.idsT (Ix.wordP f s) (T.take (k + 1))) = L) := Lib.hid (by rw [hit, HL.out])
        clear hit hP
        go_wp2
        go_roundw
        case rel => exact ⟨k + 1, hlt, by go_num, by rw [HP.out]; exact hown, hb⟩
        case measure => simp [intOf]; omega
      have t1 : (y.word == s) = true := by simpa using hx1
      have hP : Ix.wordP f s y = true := by unfold Ix.wordP; simp at hx0 hx1; simp [hx0, hx1]
      clear hx0 hx1
      rw [if_pos hP] at hit
      have HP : Hid (Cp.puts Cp.ltI (Ix.idsT (Ix.wordP f s) (T.take (k + 1))) = Cp.put Cp.ltI L y.id) := Lib.hid (by rw [hit, Ix.puts_snoc, HL.out])
      clear hit hP
      go_wp2_with (go_at_call 55; ((with_reducible refine (r20_insert_c L y.id oa oc _ HIO.out hpl3).mono ?_); rintro e w5 ⟨v5, rfl, hown5, hb5⟩))
      go_roundw
      case rel => exact ⟨k + 1, hlt, by go_num, by rw [HP.out]; exact Ix.row_lower hown5 hbs, Tx.step hb hb5⟩
      case measure => simp [intOf]; omega
    · obtain rfl : k = T.length := by omega
      rw [List.take_length] at hown
      go_wp2
      go_ret
      exact ⟨_, rfl, Ix.row_lower hown hbB, Tx.step hB hb⟩

set_option maxHeartbeats 3200000 in
theorem r20_Prefix_c (T : List Ix.PT) (a : Option Addr) (c : Nat) (f : Int) (s : Ix.By) (w : World) (h : Ix.PsA w a c T) (hn : T.length ≤ 1000000000) (hw : ∀ t ∈ T, t.1.word.length ≤ 1000000) :
    Calls Tryz.prog 25 #[.agg #[.slice a T.length c], .int .i64 f, .string ⟨s.toArray⟩] w fun e w' => ∃ v, e = .returned v ∧ Ix.OwnI w' w.heap.size v (Cp.puts Cp.ltI (Ix.idsT (Ix.prefP f s) T)) ∧ Below w.heap.size w w' := by
  have hcap := h.fa.cap
  obtain ⟨W, hW⟩ : ∃ W, w.alloc (.cells #[.slice a T.length c] 34) = W := ⟨_, rfl⟩
  have hB : Below w.heap.size w W := by rw [← hW]; exact Tx.newb _ _
  have c0 : W.cell? ⟨w.heap.size, 0, none⟩ = some (.slice a T.length c) := by rw [← hW]; simp
  have HS := Lib.hid (h.below hB); clear h
  have hbB := hB.size
  go_enter Tryz.func25, Tryz.ntmps25
  go_wp2
  clear hW
  go_loopw [7, 8] (fun v i wr => ∃ (k : Nat), k ≤ T.length ∧ i = .int .i64 k ∧ Ix.OwnI wr W.heap.size v (Cp.puts Cp.ltI (Ix.idsT (Ix.prefP f s) (T.take k))) ∧ Below W.heap.size W wr) (fun _ i _ => T.length - (intOf i).toNat)
  case atStart => exact ⟨0, Nat.zero_le _, rfl, World.ownsRow_nil _ _ _ _, Below.refl _ _⟩
  case round =>
    obtain ⟨k, hk, rfl, hown, hb⟩ := hrel
    have hbs := hb.size
    replace c0 := cell_later hb c0
    by_cases hlt : k < T.length
    · obtain ⟨⟨y, ya, yc⟩, hy⟩ : ∃ y, T[k]? = some y := ⟨_, List.getElem?_eq_getElem hlt⟩
      have hit := Ix.idsT_take (p := Ix.prefP f s) hy
      obtain ⟨b, o, rfl, hbl, g0, g1, g2, g3, _⟩ := HS.out.get hy
      simp only at g0 g1 g2 g3 hit
      replace g0 := cell_later hb g0
      replace g1 := cell_later hb g1
      replace g2 := cell_later hb g2
      have hpl := Ix.puts_len (Ix.idsT (Ix.prefP f s) (T.take k))
      have hpl2 := Ix.idsT_len (Ix.prefP f s) (T.take k)
      rw [List.length_take] at hpl2
      obtain ⟨L, hL⟩ : ∃ L, Cp.puts Cp.ltI (Ix.idsT (Ix.prefP f s) (T.take k)) = L := ⟨_, rfl⟩
      have HL := Lib.hid hL
      rw [hL] at hown hpl
      have hpl3 : L.length ≤ 1000000000 := by omega
      obtain ⟨oa, oc, rfl, hio, _⟩ := Ix.IA.of_own hown rfl
      have HIO := Lib.hid hio
      have hwl := hw _ (List.mem_of_getElem? hy)
      simp only at hwl
      clear hio hpl hpl2 hL hy
      by_cases hx0 : s = []
      · have t0 : (s == []) = true := by simpa using hx0
        have hP : Ix.prefP f s y = false := by unfold Ix.prefP; simp [hx0]
        clear hx0
        rw [if_neg (by rw [hP]; decide), List.append_nil] at hit
        have HP : Hid (Cp.puts Cp.ltI (Ix.idsT (Ix.prefP f s) (T.take (k + 1))) = L) := Lib.hid (by rw [hit, HL.out])
        clear hit hP
        go_wp2
        go_roundw
        case rel => exact ⟨k + 1, hlt, by go_num, by rw [HP.out]; exact hown, hb⟩
        case measure => simp [intOf]; omega
      have t0 : (s == []) = false := by simpa using hx0
      by_cases hx1 : ¬ y.fld = f
      · have t1 : (y.fld == f) = false := by simpa using hx1
        have hP : Ix.prefP f s y = false := by unfold Ix.prefP; simp [hx1]
        clear hx0 hx1
        rw [if_neg (by rw [hP]; decide), List.append_nil] at hit
        have HP : Hid (Cp.puts Cp.ltI (Ix.idsT (Ix.prefP f s) (T.take (k + 1))) = L) := Lib.hid (by rw [hit, HL.out])
        clear hit hP
        go_wp2
        go_roundw
        case rel => exact ⟨k + 1, hlt, by go_num, by rw [HP.out]; exact hown, hb⟩
        case measure => simp [intOf]; omega
      have t1 : (y.fld == f) = true := by simpa using hx1
      by_cases hx2 : y.word.length < s.length
      · have t2 : decide (s.length ≤ y.word.length) = false := by simpa using hx2
        have hP : Ix.prefP f s y = false := by unfold Ix.prefP; rw [Ix.begP_short hx2]; simp
        clear hx0 hx1 hx2
        rw [if_neg (by rw [hP]; decide), List.append_nil] at hit
        have HP : Hid (Cp.puts Cp.ltI (Ix.idsT (Ix.prefP f s) (T.take (k + 1))) = L) := Lib.hid (by rw [hit, HL.out])
        clear hit hP
        go_wp2
        go_roundw
        case rel => exact ⟨k + 1, hlt, by go_num, by rw [HP.out]; exact hown, hb⟩
        case measure => simp [intOf]; omega
      have t2 : decide (s.length ≤ y.word.length) = true := by simpa using hx2
      have hle : (s.length : Int) ≤ (y.word.length : Int) := by omega
      have hle2 : s.length ≤ y.word.length := by omega
      by_cases hx3 : ¬ y.word.take s.length = s
      · have t3 : (((⟨y.word.toArray⟩ : ByteArray).extract 0 s.length).toList == s) = false := by rw [Lib.toList_data, Lib.extract_data]; simpa using hx3
        have hP : Ix.prefP f s y = false := by unfold Ix.prefP Ix.begP; simp [hx3]
        clear hx0 hx1 hx2 hx3
        rw [if_neg (by rw [hP]; decide), List.append_nil] at hit
        have HP : Hid (Cp.puts Cp.ltI (Ix.idsT (Ix.prefP f s) (T.take (k + 1))) = L) := Lib.hid (by rw [hit, HL.out])
        clear hit hP
        go_wp2
        go_roundw
        case rel => exact ⟨k + 1, hlt, by go_num, by rw [HP.out]; exact hown, hb⟩
        case measure => simp [intOf]; omega
      have t3 : (((⟨y.word.toArray⟩ : ByteArray).extract 0 s.length).toList == s) = true := by rw [Lib.toList_data, Lib.extract_data]; simpa using hx3
      have hP : Ix.prefP f s y = true := by unfold Ix.prefP Ix.begP; simp at hx1 hx3; simp [hx0, hx1, hx3]
      clear hx0 hx1 hx2 hx3
      rw [if_pos hP] at hit
      have HP : Hid (Cp.puts Cp.ltI (Ix.idsT (Ix.prefP f s) (T.take (k + 1))) = Cp.put Cp.ltI L y.id) := Lib.hid (by rw [hit, Ix.puts_snoc, HL.out])
      clear hit hP
      go_wp2_with (go_at_call 55; ((with_reducible refine (r20_insert_c L y.id oa oc _ HIO.out hpl3).mono ?_); rintro e w5 ⟨v5, rfl, hown5, hb5⟩))
      go_roundw
      case rel => exact ⟨k + 1, hlt, by go_num, by rw [HP.out]; exact Ix.row_lower hown5 hbs, Tx.step hb hb5⟩
      case measure => simp [intOf]; omega
    · obtain rfl : k = T.length := by omega
      rw [List.take_length] at hown
      go_wp2
      go_ret
      exact ⟨_, rfl, Ix.row_lower hown hbB, Tx.step hB hb⟩

end Go.Proofs.YtcjalpegffldaaaGreatDoor
