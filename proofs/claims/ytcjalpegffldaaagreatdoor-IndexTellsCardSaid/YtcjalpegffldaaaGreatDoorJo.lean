/- The program's ascending and Right: what the calls return. -/
import Derived.Test.YtcjalpegffldaaaGreatDoorJn
import Derived.Maps.RangeWalk
import Derived.Test.YtcjalpegffldaaaGreatDoorJj
import Derived.Test.YtcjalpegffldaaaGreatDoorShelf
namespace Go.Proofs.YtcjalpegffldaaaGreatDoor
open Go.RowKit
set_option maxRecDepth 100000

namespace Ix
open Rc
theorem below_grow (w : World) (n : Nat) (os : Array Obj) : Below w.heap.size w (Go.Sort.grow (w.drewN n) os) :=
  (Below.refl w.heap.size w).grown (row := none) ⟨rfl, rfl, rfl, by simp [Go.Sort.grow, World.drewN], fun k hk _ => by rw [Go.Sort.heap_grow_old _ _ (by simpa using hk)]; rfl⟩ (Nat.le_refl _) (fun j h => by cases h)
theorem okP_asc {p : Post} (h1 : 0 ≤ p.fld) (h2 : p.fld ≤ 4) (h3 : p.word ≠ []) (h4 : 1 ≤ p.id) (h5 : p.at_ ≠ []) : okP p = ascF (-1) p.at_ := by
  unfold okP
  rw [decide_eq_true h1, decide_eq_true h2, decide_eq_true h4]
  simp [h3, h5]
theorem cmp_ge (p q : Post) : decide (0 ≤ cmpP p q) = !(ltK p q) := by
  rw [← cmpP_lt, Bool.eq_iff_iff]
  simp
end Ix
theorem ix_order_b (p q : Ix.PT) (w : World) : Calls Tryz.prog 49 #[.agg #[.int .i64 p.1.fld, .string ⟨p.1.word.toArray⟩, .int .i64 p.1.id, .slice p.2.1 p.1.at_.length p.2.2], .agg #[.int .i64 q.1.fld, .string ⟨q.1.word.toArray⟩, .int .i64 q.1.id, .slice q.2.1 q.1.at_.length q.2.2]] w fun e w' => e = .returned (.int .i64 (Ix.cmpP p.1 q.1)) ∧ Below w.heap.size w w' :=
  (ix_order_c p q w).mono fun _ _ ⟨he, n, os, hw⟩ => ⟨he, by rw [hw]; exact Ix.below_grow w n os⟩

set_option maxHeartbeats 800000 in
theorem ix_asc_c (l : List Int) (a : Option Addr) (c : Nat) (w : World) (h : Ix.IA w a c l) :
    Calls Tryz.prog 51 #[.slice a l.length c] w fun e w' => e = .returned (.bool (Ix.ascF (-1) l)) ∧ Below w.heap.size w w' := by
  have hcap := h.cap
  have hmax := h.max
  unfold maxLen at hmax
  have HS := Lib.hid h; clear h
  go_enter Tryz.func51, Tryz.ntmps51
  go_wp2
  go_loop [3, 8] (fun x i => ∃ (k : Nat) (m : Int), k ≤ l.length ∧ i = .int .i64 k ∧ x = .int .i64 m ∧ Hid (Ix.ascF m (l.drop k) = Ix.ascF (-1) l)) (fun _ i => l.length - (intOf i).toNat)
  case atStart => exact ⟨0, -1, Nat.zero_le _, by go_num, rfl, Lib.hid rfl⟩
  case round =>
    obtain ⟨k, m, hk, rfl, rfl, hE⟩ := hrel
    by_cases hlt : k < l.length
    · obtain ⟨n, hn⟩ : ∃ n, l[k]? = some n := ⟨_, List.getElem?_eq_getElem hlt⟩
      have hE2 := hE.out
      rw [Ix.ascF_drop hn] at hE2
      obtain ⟨b, o, rfl, hbl, c0⟩ := Ix.IA.cell HS.out hn
      by_cases hmn : m < n
      · rw [decide_eq_true hmn, Bool.true_and] at hE2
        have HE2 := Lib.hid hE2
        have hd : decide (n ≤ m) = false := by simp; omega
        clear hE2 hE hn hmn
        go_wp2
        go_round
        case rel => exact ⟨k + 1, n, hlt, by go_num, rfl, HE2⟩
        case measure => simp [intOf]; omega
      · rw [decide_eq_false hmn, Bool.false_and] at hE2
        have HE2 := Lib.hid hE2
        have hd : decide (n ≤ m) = true := by simp; omega
        clear hE2 hE hn hmn
        go_wp2
        go_ret
        exact ⟨by rw [← HE2.out]; rfl, Below.refl _ _⟩
    · obtain rfl : k = l.length := by omega
      have hE2 := hE.out
      rw [List.drop_length, Ix.ascF] at hE2
      have HE2 := Lib.hid hE2
      clear hE2 hE
      go_wp2
      go_ret
      exact ⟨by rw [← HE2.out]; rfl, Below.refl _ _⟩

set_option maxHeartbeats 6400000 in
theorem ix_Right_c (T : List Ix.PT) (a : Option Addr) (c : Nat) (w : World) (h : Ix.PsA w a c T) (hn : T.length ≤ 1000000000) :
    Calls Tryz.prog 19 #[.agg #[.slice a T.length c]] w fun e w' => e = .returned (.bool (Ix.right (T.map (·.1)))) ∧ Below w.heap.size w w' := by
  have hcap := h.fa.cap
  obtain ⟨W, hW⟩ : ∃ W, w.alloc (.cells #[.slice a T.length c] 34) = W := ⟨_, rfl⟩
  have hB : Below w.heap.size w W := by rw [← hW]; exact Tx.newb _ _
  have c0 : W.cell? ⟨w.heap.size, 0, none⟩ = some (.slice a T.length c) := by rw [← hW]; simp
  have HS := Lib.hid (h.below hB); clear h
  go_enter Tryz.func19, Tryz.ntmps19
  go_wp2
  clear hW
  go_loopw [8] (fun i wr => ∃ (k : Nat), k ≤ T.length ∧ i = .int .i64 k ∧ Hid (Ix.rightF (Ix.prv T k) ((T.drop k).map (·.1)) = Ix.right (T.map (·.1))) ∧ Below W.heap.size W wr) (fun i _ => T.length - (intOf i).toNat)
  case atStart => exact ⟨0, Nat.zero_le _, by go_num, Lib.hid rfl, Below.refl _ _⟩
  case round =>
    obtain ⟨k, hk, rfl, hE, hb⟩ := hrel
    have hbs := hb.size
    replace c0 := cell_later hb c0
    by_cases hlt : k < T.length
    · obtain ⟨⟨y, ya, yc⟩, hy⟩ : ∃ y, T[k]? = some y := ⟨_, List.getElem?_eq_getElem hlt⟩
      have hdr := hE.out
      rw [Ix.drop_cons hy, List.map_cons, Ix.rightF_cons] at hdr
      have HE := Lib.hid hdr; clear hdr hE
      obtain ⟨b, o, rfl, hbl, g0, g1, g2, g3, hat⟩ := HS.out.get hy
      simp only at g0 g1 g2 g3
      replace g0 := cell_later hb g0
      replace g1 := cell_later hb g1
      replace g2 := cell_later hb g2
      replace g3 := cell_later hb g3
      have HAT := Lib.hid hat
      clear hat
      have hbN : Below wr.heap.size wr (wr.alloc (.cells #[.int .i64 y.fld, .string ⟨y.word.toArray⟩, .int .i64 y.id, .slice ya y.at_.length yc] 52)) := Tx.newb _ _
      have HB2 := Lib.hid (Tx.step (Tx.step hB hb) hbN)
      by_cases hx : y.fld < 0
      · have HF : Hid (Ix.right (T.map (·.1)) = false) := Lib.hid (by rw [← HE.out, Ix.okP_false (.inl hx)]; rfl)
        have f0 : decide (y.fld < 0) = true := by simpa using hx
        clear hx hy
        go_wp2
        go_ret
        exact ⟨by rw [HF.out]; rfl, HB2.out⟩
      have f0 : decide (y.fld < 0) = false := by simpa using hx
      have f0x := Lib.hid hx
      clear hx
      by_cases hx : 4 < y.fld
      · have HF : Hid (Ix.right (T.map (·.1)) = false) := Lib.hid (by rw [← HE.out, Ix.okP_false (.inr (.inl hx))]; rfl)
        have f1 : decide (4 < y.fld) = true := by simpa using hx
        clear hx hy
        go_wp2
        go_ret
        exact ⟨by rw [HF.out]; rfl, HB2.out⟩
      have f1 : decide (4 < y.fld) = false := by simpa using hx
      have f1x := Lib.hid hx
      clear hx
      by_cases hx : y.word = []
      · have HF : Hid (Ix.right (T.map (·.1)) = false) := Lib.hid (by rw [← HE.out, Ix.okP_false (.inr (.inr (.inl hx)))]; rfl)
        have f2 : (y.word == []) = true := by simpa using hx
        clear hx hy
        go_wp2
        go_ret
        exact ⟨by rw [HF.out]; rfl, HB2.out⟩
      have f2 : (y.word == []) = false := by simpa using hx
      have f2x := Lib.hid hx
      clear hx
      by_cases hx : y.id < 1
      · have HF : Hid (Ix.right (T.map (·.1)) = false) := Lib.hid (by rw [← HE.out, Ix.okP_false (.inr (.inr (.inr (.inl hx))))]; rfl)
        have f3 : decide (y.id < 1) = true := by simpa using hx
        clear hx hy
        go_wp2
        go_ret
        exact ⟨by rw [HF.out]; rfl, HB2.out⟩
      have f3 : decide (y.id < 1) = false := by simpa using hx
      have f3x := Lib.hid hx
      clear hx
      by_cases hx : y.at_ = []
      · have HF : Hid (Ix.right (T.map (·.1)) = false) := Lib.hid (by rw [← HE.out, Ix.okP_false (.inr (.inr (.inr (.inr (.inl hx)))))]; rfl)
        have f4 : ((y.at_.length : Int) == 0) = true := by simpa using hx
        clear hx hy
        go_wp2
        go_ret
        exact ⟨by rw [HF.out]; rfl, HB2.out⟩
      have f4 : ((y.at_.length : Int) == 0) = false := by simpa using hx
      have f4x := Lib.hid hx
      clear hx
      have HOK : Hid (Ix.okP y = Ix.ascF (-1) y.at_) := Lib.hid (Ix.okP_asc (by have := f0x.out; omega) (by have := f1x.out; omega) f2x.out (by have := f3x.out; omega) f4x.out)
      obtain ⟨W1, hW1⟩ : ∃ W1, wr.alloc (.cells #[.int .i64 y.fld, .string ⟨y.word.toArray⟩, .int .i64 y.id, .slice ya y.at_.length yc] 52) = W1 := ⟨_, rfl⟩
      have hb1 : Below wr.heap.size wr W1 := by rw [← hW1]; exact hbN
      have HKP1 : Hid (W1.heap[wr.heap.size]? = some (.cells #[.int .i64 y.fld, .string ⟨y.word.toArray⟩, .int .i64 y.id, .slice ya y.at_.length yc] 52 (0, 0))) := Lib.hid (by rw [← hW1]; exact heap_alloc_new _ _)
      have zc := (Tx.blk HKP1.out).1
      have CA : Hid (∀ v, Ix.ascF (-1) y.at_ = v → Calls Tryz.prog 51 #[.slice ya y.at_.length yc] W1 fun e w' => e = .returned (.bool v) ∧ Below W1.heap.size W1 w') := Lib.hid (fun v hv => by rw [← hv]; exact ix_asc_c y.at_ ya yc W1 ((HAT.out.below hb).below hb1))
      have HPN : Hid (Ix.prv T (k + 1) = some y) := Lib.hid (by rw [Ix.prv, hy]; rfl)
      clear hbN
      cases hav : Ix.ascF (-1) y.at_ with
      | false =>
        have HAV := Lib.hid hav
        have HF : Hid (Ix.right (T.map (·.1)) = false) := Lib.hid (by rw [← HE.out, HOK.out, hav]; rfl)
        clear hav hy
        go_wp2_with (go_at_call 51; ((with_reducible refine (CA.out false HAV.out).mono ?_); rintro e w3 ⟨rfl, hb3⟩))
        go_ret
        exact ⟨by rw [HF.out]; rfl, Tx.step (Tx.step hB hb) (Tx.step hb1 hb3)⟩
      | true =>
        have HAV := Lib.hid hav
        clear hav hy
        rcases Nat.eq_zero_or_pos k with hk0 | hk0
        · subst hk0
          simp only [Nat.zero_mul, Nat.add_zero] at g0 g1 g2 g3
          have HN : Hid (Ix.rightF (Ix.prv T (0 + 1)) ((T.drop (0 + 1)).map (·.1)) = Ix.right (T.map (·.1))) := Lib.hid (by rw [← HE.out, HOK.out, HAV.out, HPN.out]; rfl)
          go_wp2_with (go_at_call 51; ((with_reducible refine (CA.out true HAV.out).mono ?_); rintro e w3 ⟨rfl, hb3⟩))
          go_quiet (fail)
          have hbq := Tx.below_drewN (Below.refl w3.heap.size w3) nq
          go_wp2
          go_roundw
          case rel => exact ⟨0 + 1, hlt, by go_num, HN, Tx.step hb (Tx.step hb1 (Tx.step hb3 hbq))⟩
          case measure => simp [intOf]; omega
        · obtain ⟨⟨q, qa, qc⟩, hq⟩ : ∃ q, T[k - 1]? = some q := ⟨_, List.getElem?_eq_getElem (by omega)⟩
          obtain ⟨b', o', e1, _, v0, v1, v2, v3, _⟩ := HS.out.get hq
          injection e1 with e1
          injection e1 with e1 e3
          subst e1 e3
          replace v0 := cell_later hb1 (cell_later hb v0)
          replace v1 := cell_later hb1 (cell_later hb v1)
          replace v2 := cell_later hb1 (cell_later hb v2)
          replace v3 := cell_later hb1 (cell_later hb v3)
          have u0 := cell_later hb1 c0
          simp only at v0 v1 v2 v3
          have hpp := Ix.prv_pos hk0 hq
          have hw := IntWalk.i64_in ((k : Int) - 1) ⟨by omega, by omega⟩
          have hw2 : (k : Int) - 1 = ((k - 1 : Nat) : Int) := by omega
          have i6 : IntKind.i64.wrap ((k : Int) - 1) = ((k - 1 : Nat) : Int) := by rw [hw, hw2]
          have i3 : ((k - 1 : Nat) : Int) < (T.length : Int) := by omega
          have i4 : (0 : Int) ≤ ((k - 1 : Nat) : Int) := by omega
          have i5 : ((k - 1 : Nat) : Int).toNat = k - 1 := by omega
          have i7 : decide ((0 : Int) < (k : Int)) = true := by simp; omega
          have i8 : decide (0 < k) = true := by simp; omega
          have HPP := Lib.hid hpp
          clear hw hw2 hpp hq
          have CB : Hid (∀ w', Calls Tryz.prog 49 #[.agg #[.int .i64 q.fld, .string ⟨q.word.toArray⟩, .int .i64 q.id, .slice qa q.at_.length qc], .agg #[.int .i64 y.fld, .string ⟨y.word.toArray⟩, .int .i64 y.id, .slice ya y.at_.length yc]] w' fun e w'' => e = .returned (.int .i64 (Ix.cmpP q y)) ∧ Below w'.heap.size w' w'') := Lib.hid (fun w' => ix_order_b (q, qa, qc) (y, ya, yc) w')
          have hge := Ix.cmp_ge q y
          obtain ⟨C, hC⟩ : ∃ C, Ix.cmpP q y = C := ⟨_, rfl⟩
          have HC := Lib.hid hC
          rw [hC] at hge
          clear hC
          cases hlk : Ix.ltK q y with
          | false =>
            rw [hlk, Bool.not_false] at hge
            have HF : Hid (Ix.right (T.map (·.1)) = false) := Lib.hid (by rw [← HE.out, HPP.out, Ix.prevB, hlk, Bool.and_false]; rfl)
            clear hlk
            go_wp2_with (go_at_call 51; ((with_reducible refine (CA.out true HAV.out).mono ?_); rintro e w3 ⟨rfl, hb3⟩; have x0 := cell_later hb3 v0; have x1 := cell_later hb3 v1; have x2 := cell_later hb3 v2; have x3 := cell_later hb3 v3; have y0 := cell_later hb3 u0; have zc3 := (Tx.blk (Tx.blk_later HKP1.out hb3)).1))
            go_still_tail 10, (by kernel_rfl)
            change wpList _ _ _ _ _ w3.drew
            have hbq := (Below.refl w3.heap.size w3).drew
            generalize w3.drew = wq at hbq ⊢
            go_wp2_with (go_at_call 49; ((with_reducible refine (CB.out _).mono ?_); rintro e w5 ⟨rfl, hb5⟩; rw [HC.out]))
            go_ret
            exact ⟨by rw [HF.out]; rfl, Tx.step (Tx.step hB hb) (Tx.step hb1 (Tx.step hb3 (Tx.step hbq hb5)))⟩
          | true =>
            rw [hlk, Bool.not_true] at hge
            have HN : Hid (Ix.rightF (Ix.prv T (k + 1)) ((T.drop (k + 1)).map (·.1)) = Ix.right (T.map (·.1))) := Lib.hid (by rw [← HE.out, HOK.out, HAV.out, HPP.out, HPN.out, Ix.prevB, hlk]; rfl)
            clear hlk
            go_wp2_with (go_at_call 51; ((with_reducible refine (CA.out true HAV.out).mono ?_); rintro e w3 ⟨rfl, hb3⟩; have x0 := cell_later hb3 v0; have x1 := cell_later hb3 v1; have x2 := cell_later hb3 v2; have x3 := cell_later hb3 v3; have y0 := cell_later hb3 u0; have zc3 := (Tx.blk (Tx.blk_later HKP1.out hb3)).1))
            go_still_tail 10, (by kernel_rfl)
            change wpList _ _ _ _ _ w3.drew
            have hbq := (Below.refl w3.heap.size w3).drew
            generalize w3.drew = wq at hbq ⊢
            go_wp2_with (go_at_call 49; ((with_reducible refine (CB.out _).mono ?_); rintro e w5 ⟨rfl, hb5⟩; rw [HC.out]))
            go_roundw
            case rel => exact ⟨k + 1, hlt, by go_num, HN, Tx.step hb (Tx.step hb1 (Tx.step hb3 (Tx.step hbq hb5)))⟩
            case measure => simp [intOf]; omega
    · obtain rfl : k = T.length := by omega
      have hN := hE.out
      rw [List.drop_length] at hN
      have HN := Lib.hid hN; clear hN hE
      go_wp2
      go_ret
      exact ⟨by rw [← HN.out]; rfl, Tx.step hB hb⟩

end Go.Proofs.YtcjalpegffldaaaGreatDoor

/- A map from numbers to numbers that the call makes: laws. The program's Build: what the call returns. -/
namespace Go.Proofs.YtcjalpegffldaaaGreatDoor
open Go.RowKit
set_option maxRecDepth 100000

namespace Ix
open Rc
/-- The map's block leads each number to the number that f says. -/
structure NMap (w : World) (M n : Nat) (f : Int → Option Int) : Prop where
  d : ∃ D : DataW Unit, w.ownsMap Tryz.prog 3 intE M n D ∧ ∀ b, (Lit.int .i64 b).wf = true → Maps.has D (.int .i64 b) = (f b).isSome ∧ D.atKey (.int .i64 b) (.lit (.int .i64 0)) = .lit (.int .i64 ((f b).getD 0))
theorem nkey : Maps.Keyed Tryz.prog 3 := Maps.int_keyed Tryz.underlying3
theorem NMap.of_block {w w' : World} {M n : Nat} {f : Int → Option Int} (h : NMap w M n f) (hb : w'.heap[M]? = w.heap[M]?) : NMap w' M n f := by
  obtain ⟨D, ⟨es, clock, h1, h2⟩, h3⟩ := h.d
  exact ⟨D, ⟨es, clock, hb.trans h1, h2⟩, h3⟩
theorem NMap.lt {w : World} {M n : Nat} {f : Int → Option Int} (h : NMap w M n f) : M < w.heap.size := by
  obtain ⟨D, h1, _⟩ := h.d
  exact h1.lt
theorem NMap.obj {w : World} {M n : Nat} {f : Int → Option Int} (h : NMap w M n f) : ∃ es c, w.heap[M]? = some (.map es c) := by
  obtain ⟨D, ⟨es, clock, h1, _⟩, _⟩ := h.d
  exact ⟨es, clock, h1⟩
theorem NMap.made (w : World) : NMap (w.alloc (.map #[] 0)) w.heap.size 0 (fun _ => none) :=
  ⟨⟨.map [], World.ownsMap_made _ _ _ _, fun _ _ => ⟨rfl, rfl⟩⟩⟩
theorem NMap.look {w : World} {M n : Nat} {f : Int → Option Int} (h : NMap w M n f) {b r : Int} (hr : (f b).getD 0 = r) (hw : (Lit.int .i64 b).wf = true) : (Instr.lookup 70 (.map (some M)) (.int .i64 b) false).run Tryz.prog w = .ok (.int .i64 r) w := by
  obtain ⟨D, h1, h2⟩ := h.d
  obtain ⟨h3, h4⟩ := h2 b hw
  obtain ⟨v, ps, hrun, hv⟩ := h1.lookup nkey Tryz.underlying70 (szero w) (zd := .lit (.int .i64 0)) (zp := []) rfl (Maps.keyOf_int_mk Tryz.underlying3 hw)
  rw [h4, hr] at hv
  obtain rfl := intE_some hv
  exact hrun
section
variable {w : World} {ops : Array Oper} {rest : List Oper} {o : Oper} {a : Act} {Q : Exit → Act → World → Prop} {M n : Nat} {f : Int → Option Int}
theorem nmap_put {b r : Int} (hp : NMap w M n f) (hn : n < maxLen) (hw : (Lit.int .i64 b).wf = true) (hg : o.guard = none) (m x v : Operand) (hop : o.op = Op.mapUpdate 70 m x v)
    (hm : a.eval m = .map (some M)) (hx : a.eval x = .int .i64 b) (hv : a.eval v = .int .i64 r)
    (hK : ∀ w', NMap w' M (n + 1) (fun y => if y = b then some r else f y) → w.grownBy w' (some M) → wpList Tryz.prog ops Q rest (a.put o.dst undef) w') : wpList Tryz.prog ops Q (o :: rest) a w := by
  obtain ⟨D, h1, h2⟩ := hp.d
  refine wpList_mapUpdate_own w hg m x v _ hop 3 3 nkey Tryz.underlying70 intE M n D hm h1 hn _ _ _ hx hv (Maps.keyOf_int_mk Tryz.underlying3 hw) (.lit (.int .i64 r)) [] rfl fun w' h3 h4 => ?_
  refine hK w' ⟨⟨_, h3, fun y hy => ?_⟩⟩ h4
  have ht := (h1.tidy nkey).isMap
  by_cases hyb : y = b
  · subst hyb
    have hk : WideAt.IsKeyLit (Lit.int .i64 y) := trivial
    rw [if_pos rfl, Maps.has_put_same ht hk, Maps.atKey_put_same ht hk]
    exact ⟨rfl, rfl⟩
  · have hne : Lit.int .i64 y ≠ Lit.int .i64 b := fun e => hyb (by injection e)
    rw [if_neg hyb, Maps.has_put_other hne, Maps.atKey_put_other hne]
    exact h2 y hy
end
theorem own_ne_nmap {w : World} {B e size n M m : Nat} {v : Value} {xs : List Value} {f : Int → Option Int} (h : w.ownsRow B e size v n xs) (hM : NMap w M m f) : v.ownBlock ≠ some M := fun e => by
  obtain ⟨es, cl, hM⟩ := hM.obj
  rcases h.2 with ⟨rfl, _⟩ | ⟨b, cap, cur, rfl, _, hb, _⟩
  · cases e
  · have e' : b = M := by injection e
    subst e'
    rw [hM] at hb
    cases hb
/-! the records that an index is made of -/
theorem chs_ids {l : List Rd} : ∀ {k : Nat} {q : Rd}, q ∈ l.take k → 1 ≤ q.id → q.id ∈ (chs l k).map (·.id)
  | 0, q, h, _ => by simp at h
  | k + 1, q, h, h1 => by
    cases hk : l[k]? with
    | none =>
      rw [List.take_of_length_le (by rw [List.getElem?_eq_none_iff] at hk; omega)] at h
      rw [chs, hk]
      exact chs_ids (k := k) (by rw [List.take_of_length_le (by rw [List.getElem?_eq_none_iff] at hk; omega)]; exact h) h1
    | some r =>
      rw [take_snoc hk, List.mem_append] at h
      rw [chs_succ hk]
      rcases h with h | h
      · have ih := chs_ids h h1
        split
        · exact ih
        · rw [List.map_append]; exact List.mem_append_left _ ih
      · rw [List.mem_singleton] at h
        subst h
        split
        · rename_i hc
          rcases hc with hc | hc
          · omega
          · obtain ⟨p, hp, e⟩ := met_iff.1 hc
            rw [← e]
            exact chs_ids hp (by omega)
        · rw [List.map_append]; exact List.mem_append_right _ (by simp)
theorem chs_met {l : List Rd} {k : Nat} {r : Rd} (h1 : 1 ≤ r.id) : met l k r = true ↔ r.id ∈ (chs l k).map (·.id) := by
  rw [met_iff]
  constructor
  · rintro ⟨q, hq, e⟩
    rw [← e]
    exact chs_ids hq (by omega)
  · intro h
    obtain ⟨q, hq, e⟩ := List.mem_map.1 h
    exact ⟨q, (chs_mem hq).2, e⟩
theorem chs_len (l : List Rd) : ∀ k, (chs l k).length ≤ k
  | 0 => Nat.le_refl _
  | k + 1 => by
    have ih := chs_len l k
    cases hk : l[k]? with
    | none => rw [chs, hk]; simp only; omega
    | some r =>
      rw [chs_succ hk]
      split
      · omega
      · rw [List.length_append]; simp; omega
/-- Posts that a call owns, the slices of their places elsewhere. -/
structure BuS (w : World) (B : Nat) (v : Value) (T : List PT) : Prop where
  own : OwnP w B v T
  ats : Ats w T
  sep : ∀ t ∈ T, t.1.at_ ≠ [] → ∀ g, t.2.1 = some g → v.ownBlock ≠ some g.block
theorem BuS.below {w w' : World} {B : Nat} {v : Value} {T : List PT} (h : BuS w B v T) (hb : Below w.heap.size w w') : BuS w' B v T := ⟨own_below h.own hb, h.ats.below hb, h.sep⟩
theorem BuS.app {w w1 w' : World} {B : Nat} {v v' : Value} {T T2 : List PT} (h : BuS w B v T) (hb : Below w.heap.size w w1) (h2 : Ats w1 T2) (hf : ∀ t ∈ T2, ∀ g, t.2.1 = some g → w.heap.size ≤ g.block) (hg : w1.grownBy w' v.ownBlock) (hown : w'.ownsRow B 52 4 v' (T.length + T2.length) (T.flatMap encP ++ T2.flatMap encP)) (hv : v'.ownBlock = v.ownBlock ∨ v'.ownBlock = some w1.heap.size) : BuS w' B v' (T ++ T2) := by
  have h' := h.below hb
  have hs2 : ∀ t ∈ T2, t.1.at_ ≠ [] → ∀ g, t.2.1 = some g → v.ownBlock ≠ some g.block := fun t ht _ g hg e => by
    have h3 := (h.own.lt _ e).2
    have h4 := hf t ht g hg
    omega
  have hsA : ∀ t ∈ T ++ T2, t.1.at_ ≠ [] → ∀ g, t.2.1 = some g → v.ownBlock ≠ some g.block ∧ g.block < w1.heap.size := fun t ht hn g hg => by
    rcases List.mem_append.1 ht with ht | ht
    · exact ⟨h.sep t ht hn g hg, (h'.ats t ht).lt hn g hg⟩
    · exact ⟨hs2 t ht hn g hg, (h2 t ht).lt hn g hg⟩
  have hat1 : Ats w1 (T ++ T2) := fun t ht => by
    rcases List.mem_append.1 ht with ht | ht
    · exact h'.ats t ht
    · exact h2 t ht
  refine ⟨by unfold OwnP; rw [List.length_append, List.flatMap_append]; exact hown, fun t ht => ?_, fun t ht hn g hg2 e => ?_⟩
  · exact (hat1 t ht).agree hg.size (fun hn g hg2 => hg.block _ (hsA t ht hn g hg2).2 (fun e => (hsA t ht hn g hg2).1 e.symm))
  · rcases hv with hv | hv
    · rw [hv] at e; exact (hsA t ht hn g hg2).1 e
    · rw [hv] at e
      injection e with e
      have := (hsA t ht hn g hg2).2
      omega
theorem BuS.sorted {w w' : World} {B : Nat} {v : Value} {T S : List PT} (h : BuS w B v T) (hp : S.Perm T) (hg : w.grownBy w' v.ownBlock) (hown : OwnP w' B v S) : BuS w' B v S :=
  ⟨hown, fun t ht => (h.ats t (hp.mem_iff.1 ht)).agree hg.size (fun hn g hg2 => hg.block _ ((h.ats t (hp.mem_iff.1 ht)).lt hn g hg2) (fun e => h.sep t (hp.mem_iff.1 ht) hn g hg2 e.symm)), fun t ht => h.sep t (hp.mem_iff.1 ht)⟩
theorem BuS.kept {w w' : World} {B X : Nat} {v : Value} {T : List PT} (h : BuS w B v T) (hX : X < B) (hat : ∀ t ∈ T, t.1.at_ ≠ [] → ∀ g, t.2.1 = some g → g.block ≠ X) (hb : ∀ k, k ≠ X → w'.heap[k]? = w.heap[k]?) (hs : w.heap.size ≤ w'.heap.size) : BuS w' B v T := by
  refine ⟨⟨h.own.1, ?_⟩, fun t ht => (h.ats t ht).agree hs (fun hn g hg => hb _ (hat t ht hn g hg)), h.sep⟩
  rcases h.own.2 with h1 | ⟨g, cap, cur, rfl, h2, h3, h4⟩
  · exact .inl h1
  · exact .inr ⟨g, cap, cur, rfl, h2, (hb g (by omega)).trans h3, h4⟩
end Ix
end Go.Proofs.YtcjalpegffldaaaGreatDoor

/- A map with elements of any kind that the call makes, read as a function of its keys: laws. -/
namespace Go.Proofs.YtcjalpegffldaaaGreatDoor
open Go.RowKit
set_option maxRecDepth 100000

namespace Vm
open Go.Maps (Keyed)
abbrev rawE : Value → Option (DataW Value × List MemPlace) := fun v => some (.held v, [])
open Classical in
/-- The function changed at one key. -/
noncomputable def upd (f : Lit → Option Value) (kl : Lit) (u : Value) : Lit → Option Value := fun y => if y = kl then some u else f y
theorem upd_same (f : Lit → Option Value) (kl : Lit) (u : Value) : upd f kl u kl = some u := by unfold upd; rw [if_pos rfl]
theorem upd_other (f : Lit → Option Value) {kl y : Lit} (u : Value) (h : y ≠ kl) : upd f kl u y = f y := by unfold upd; rw [if_neg h]
/-- The datum reads as this function. -/
def Reads (D : DataW Value) (f : Lit → Option Value) : Prop := ∀ kl, Maps.has D kl = (f kl).isSome ∧ ∀ z, D.atKey kl z = (match f kl with | some v => .held v | none => z)
/-- Block M is a map of keys of type k that leads each key to the value that f says. -/
structure Map (k : TypeId) (w : World) (M n : Nat) (f : Lit → Option Value) : Prop where
  d : ∃ D : DataW Value, w.ownsMap Tryz.prog k rawE M n D ∧ Reads D f
variable {k : TypeId} {w w' : World} {M n r cnt : Nat} {f : Lit → Option Value} {left : Lit → Bool}
theorem Map.of_block (h : Map k w M n f) (hb : w'.heap[M]? = w.heap[M]?) : Map k w' M n f := by
  obtain ⟨D, ⟨es, clock, h1, h2⟩, h3⟩ := h.d
  exact ⟨D, ⟨es, clock, hb.trans h1, h2⟩, h3⟩
theorem Map.lt (h : Map k w M n f) : M < w.heap.size := by
  obtain ⟨D, h1, _⟩ := h.d
  exact h1.lt
theorem Map.obj (h : Map k w M n f) : ∃ es c, w.heap[M]? = some (.map es c) := by
  obtain ⟨D, ⟨es, clock, h1, _⟩, _⟩ := h.d
  exact ⟨es, clock, h1⟩
theorem Map.mono (h : Map k w M n f) {m : Nat} (hm : n ≤ m) : Map k w M m f := by
  obtain ⟨D, h1, h2⟩ := h.d
  exact ⟨D, h1.mono hm, h2⟩
theorem Map.kept (h : Map k w M n f) {row : Option Nat} (hg : w.grownBy w' row) (hne : some M ≠ row) : Map k w' M n f := h.of_block (hg.block M h.lt hne)
theorem Map.below (h : Map k w M n f) (hb : Below w.heap.size w w') : Map k w' M n f := h.of_block (hb.block M h.lt)
theorem Map.made (k : TypeId) (w : World) : Map k (w.alloc (.map #[] 0)) w.heap.size 0 (fun _ => none) :=
  ⟨⟨.map [], World.ownsMap_made _ _ _ _, fun _ => ⟨rfl, fun _ => rfl⟩⟩⟩
theorem Map.ne_row {B e size m : Nat} {v : Value} {xs : List Value} (hM : Map k w M n f) (h : w.ownsRow B e size v m xs) : v.ownBlock ≠ some M := fun e => by
  obtain ⟨es, cl, hM⟩ := hM.obj
  rcases h.2 with ⟨rfl, _⟩ | ⟨b, cap, cur, rfl, _, hb, _⟩
  · cases e
  · have e' : b = M := by injection e
    subst e'
    rw [hM] at hb
    cases hb
theorem Map.look (h : Map k w M n f) (K : Keyed Tryz.prog k) {t e : TypeId} (ht : Tryz.prog.underlying t = some (.map k e)) {z : Value} (hz : (zeroValue e).run Tryz.prog w = .ok z w) {key : Value} {kl : Lit} (hkey : keyOf Tryz.prog k key = some kl) {v : Value} (hv : (f kl).getD z = v) :
    (Instr.lookup t (.map (some M)) key false).run Tryz.prog w = .ok v w := by
  obtain ⟨D, h1, h2⟩ := h.d
  obtain ⟨u, ps, hrun, hu⟩ := h1.lookup K ht hz (zd := .held z) (zp := []) rfl hkey
  rw [(h2 kl).2] at hu
  have e : u = v := by
    injection hu with hu
    injection hu with hu
    cases hf : f kl with
    | none => rw [hf] at hu hv; injection hu with hu; rw [hu]; exact hv
    | some x => rw [hf] at hu hv; injection hu with hu; rw [hu]; exact hv
  rw [hrun, e]
section
variable {ops : Array Oper} {rest : List Oper} {o : Oper} {a : Act} {Q : Exit → Act → World → Prop}
theorem Reads.put {D : DataW Value} (h : Reads D f) (ht : Maps.IsMap D) {kl : Lit} (hk : WideAt.IsKeyLit kl) (v : Value) : Reads (D.put kl (.held v)) (upd f kl v) := fun y => by
  by_cases hy : y = kl
  · subst hy
    rw [upd_same, Maps.has_put_same ht hk]
    exact ⟨rfl, fun z => Maps.atKey_put_same ht hk _ _⟩
  · rw [upd_other _ _ hy, Maps.has_put_other hy]
    exact ⟨(h y).1, fun z => by rw [Maps.atKey_put_other hy]; exact (h y).2 z⟩
theorem put_step (hp : Map k w M n f) (hn : n < maxLen) (K : Keyed Tryz.prog k) {key : Value} {kl : Lit} (hkey : keyOf Tryz.prog k key = some kl) (hkl : WideAt.IsKeyLit kl) (hg : o.guard = none) (m x v : Operand) {t e : TypeId} (hop : o.op = Op.mapUpdate t m x v)
    (ht : Tryz.prog.underlying t = some (.map k e)) (hm : a.eval m = .map (some M)) (hx : a.eval x = key) {u : Value} (hv : a.eval v = u)
    (hK : ∀ w', Map k w' M (n + 1) (upd f kl u) → w.grownBy w' (some M) → wpList Tryz.prog ops Q rest (a.put o.dst undef) w') : wpList Tryz.prog ops Q (o :: rest) a w := by
  obtain ⟨D, h1, h2⟩ := hp.d
  refine wpList_mapUpdate_own w hg m x v _ hop k e K ht rawE M n D hm h1 hn _ _ _ hx hv hkey (.held u) [] rfl fun w' h3 h4 => ?_
  exact hK w' ⟨⟨_, h3, h2.put (h1.tidy K).isMap hkl u⟩⟩ h4
/-- The map under a range loop. -/
structure Rng (k : TypeId) (w : World) (M r n : Nat) (f : Lit → Option Value) (left : Lit → Bool) (cnt : Nat) : Prop where
  d : ∃ D : DataW Value, w.ranges Tryz.prog k rawE M r n D left cnt ∧ Reads D f
theorem Rng.map (h : Rng k w M r n f left cnt) : Map k w M n f := by
  obtain ⟨D, h1, h2⟩ := h.d
  exact ⟨D, h1.owns, h2⟩
theorem Rng.kept (h : Rng k w M r n f left cnt) {row : Option Nat} (hg : w.grownBy w' row) (h1 : some M ≠ row) (h2 : some r ≠ row) : Rng k w' M r n f left cnt := by
  obtain ⟨D, h3, h4⟩ := h.d
  exact ⟨D, h3.kept hg h1 h2, h4⟩
theorem Rng.below (h : Rng k w M r n f left cnt) (hb : Below w.heap.size w w') : Rng k w' M r n f left cnt :=
  h.kept (row := none) ⟨hb.os, hb.tape, hb.output, hb.size, fun k hk _ => hb.block k hk⟩ (by simp) (by simp)
theorem Rng.lt (h : Rng k w M r n f left cnt) : r < w.heap.size := by
  obtain ⟨D, h3, _⟩ := h.d
  exact h3.lt
theorem Rng.ne (h : Rng k w M r n f left cnt) : r ≠ M := by
  obtain ⟨D, h3, _⟩ := h.d
  exact h3.ne
theorem Rng.left_eq (h : Rng k w M r n f left cnt) : w.rangeLeft M r = cnt := by
  obtain ⟨D, h3, _⟩ := h.d
  exact h3.left_eq
theorem Rng.ne_row {B e size m : Nat} {v : Value} {xs : List Value} (hR : Rng k w M r n f left cnt) (h : w.ownsRow B e size v m xs) : v.ownBlock ≠ some r := fun e => by
  obtain ⟨D, ⟨es, clock, since, seen, c0, _, _, _, _, hr, _⟩, _⟩ := hR.d
  rcases h.2 with ⟨rfl, _⟩ | ⟨b, cap, cur, rfl, _, hb, _⟩
  · cases e
  · have e' : b = r := by injection e
    subst e'
    rw [hr] at hb
    cases hb
theorem range_step (hp : Map k w M n f) (K : Keyed Tryz.prog k) (hg : o.guard = none) (m : Operand) {t e : TypeId} (hop : o.op = Op.range t m) (ht : Tryz.prog.underlying t = some (.map k e)) (hm : a.eval m = .map (some M))
    (hK : ∀ w' cnt, cnt ≤ n → Rng k w' M w.heap.size n f (fun kl => (f kl).isSome) cnt → w.grownBy w' none → w'.heap.size = w.heap.size + 1 → wpList Tryz.prog ops Q rest (a.put o.dst (.pointer (some ⟨w.heap.size, 0, none⟩))) w') : wpList Tryz.prog ops Q (o :: rest) a w := by
  obtain ⟨D, h1, h2⟩ := hp.d
  refine wpList_range_own w hg m t hop k e K ht rawE M n D hm h1 fun w' h3 h4 h5 => ?_
  have e : Maps.has D = fun kl => (f kl).isSome := by funext kl; exact (h2 kl).1
  rw [e] at h3
  refine hK w' (Maps.size D) ?_ ⟨D, h3, h2⟩ h4 h5
  obtain ⟨es, clock, _, _, hs, rfl⟩ := h1
  rw [Maps.size_eq, length_sorted]
  simpa using hs
/-- The step of a range loop over a map whose keys are ints. -/
theorem next_step (h : Rng 3 w M r n f left cnt) (hg : o.guard = none) (it : Operand) (hop : o.op = Op.next it false) (hit : a.eval it = .pointer (some ⟨r, 0, none⟩))
    (hDone : cnt = 0 → (∀ kl, left kl = false) → wpList Tryz.prog ops Q rest (a.put o.dst (.tuple #[.bool false])) w)
    (hMore : ∀ (x : Int) (v : Value) (w' : World) (cnt' : Nat), (Lit.int .i64 x).wf = true → left (.int .i64 x) = true → f (.int .i64 x) = some v → Rng 3 w' M r n f (fun z => left z && !z.sameKey (.int .i64 x)) cnt' → cnt' < cnt →
      w.grownBy w' (some r) → w'.heap.size = w.heap.size → (Instr.entry (.pointer (some ⟨r, 0, none⟩))).run Tryz.prog w' = .ok (.tuple #[.int .i64 x, v]) w' → wpList Tryz.prog ops Q rest (a.put o.dst (.tuple #[.bool true, .int .i64 x, v])) w') :
    wpList Tryz.prog ops Q (o :: rest) a w := by
  obtain ⟨D, h1, h2⟩ := h.d
  refine wpList_next_ranges (α := Int) (β := Value) w hg it hop 3 Ix.nkey rawE (Value.int .i64) (fun v => v) (fun key kl hkey => by obtain ⟨x, rfl, _⟩ := Maps.keyOf_int_inv Tryz.underlying3 hkey; exact ⟨x, rfl⟩) (fun v y hv => ⟨v, rfl⟩) M r n D left cnt hit h1 hDone ?_
  intro x v kl y w' cnt' hkey hlk hv hat hrg hlt hgr hsz hen
  obtain ⟨x', ex, rfl, hwx⟩ := Maps.keyOf_int_inv Tryz.underlying3 hkey
  cases ex
  have hv' : y = (.held v, []) := by injection hv with hv; exact hv.symm
  subst hv'
  refine hMore x v w' cnt' hwx hlk ?_ ⟨D, hrg, h2⟩ hlt hgr hsz hen
  have e := hat .nil
  rw [(h2 _).2] at e
  cases hf : f (.int .i64 x) with
  | none => rw [hf] at e; cases e
  | some u => rw [hf] at e; injection e with e; rw [e]
end
end Vm
end Go.Proofs.YtcjalpegffldaaaGreatDoor

/- Memory of the program's Phrase: a map of maps that lead to the places of words. -/
namespace Go.Proofs.YtcjalpegffldaaaGreatDoor
open Go.RowKit
set_option maxRecDepth 100000

namespace Ix
open Rc
abbrev nilSl : Value := .slice none 0 0
/-- A record's map: each word leads to its places. -/
def lkF (T : List PT) (f id : Int) : Lit → Option Value
  | .string s => (lk T f id s).map fun t => .slice t.2.1 t.1.at_.length t.2.2
  | _ => none
/-- Each record leads to its map. -/
def gF (g : Int → Option Nat) : Lit → Option Value
  | .int .i64 x => (g x).map fun b => .map (some b)
  | _ => none
theorem lkF_str (T : List PT) (f id : Int) (s : By) : lkF T f id (.string s) = (lk T f id s).map fun t => .slice t.2.1 t.1.at_.length t.2.2 := rfl
theorem gF_int (g : Int → Option Nat) (x : Int) : gF g (.int .i64 x) = (g x).map fun b => .map (some b) := rfl
theorem lkF_take {T : List PT} {k : Nat} {t : PT} (f : Int) (h : T[k]? = some t) (hf : t.1.fld = f) : lkF (T.take (k + 1)) f t.1.id = Vm.upd (lkF (T.take k) f t.1.id) (.string t.1.word) (.slice t.2.1 t.1.at_.length t.2.2) := by
  funext y
  cases y with
  | string s =>
    rw [lkF_str, lk_take f _ s h]
    by_cases e : t.1.word = s
    · subst e
      rw [if_pos (hitP_iff.2 ⟨hf, rfl, rfl⟩), Vm.upd_same]
      rfl
    · rw [if_neg (fun h9 => e (hitP_iff.1 h9).2.2), Vm.upd_other _ _ (fun h9 => e (by injection h9 with h9; exact h9.symm)), lkF_str]
  | _ => rw [Vm.upd_other _ _ (by intro h9; cases h9)]; rfl
theorem lkF_other {T : List PT} {k : Nat} {t : PT} {f x : Int} (h : T[k]? = some t) (hx : t.1.fld ≠ f ∨ t.1.id ≠ x) : lkF (T.take (k + 1)) f x = lkF (T.take k) f x := by
  funext y
  cases y with
  | string s =>
    rw [lkF_str, lkF_str, lk_take f _ s h, if_neg (fun h9 => by
      obtain ⟨h1, h2, _⟩ := hitP_iff.1 h9
      rcases hx with hx | hx
      · exact hx h1
      · exact hx h2)]
  | _ => rfl
theorem gF_put (g : Int → Option Nat) (id : Int) (b : Nat) : Vm.upd (gF g) (.int .i64 id) (.map (some b)) = gF (fun x => if x = id then some b else g x) := by
  funext y
  by_cases h : ∃ x, y = .int .i64 x
  · obtain ⟨x, rfl⟩ := h
    by_cases e : x = id
    · subst e; rw [Vm.upd_same, gF_int, if_pos rfl]; rfl
    · rw [Vm.upd_other _ _ (fun h9 => e (by injection h9)), gF_int, gF_int, if_neg e]
  · rw [Vm.upd_other _ _ (fun h9 => h ⟨id, h9⟩)]
    unfold gF
    split
    · rename_i x; exact absurd ⟨x, rfl⟩ h
    · rfl
/-- The records whose maps there are. -/
def ofB (T : List PT) (f x : Int) : Prop := ∃ t ∈ T, t.1.fld = f ∧ t.1.id = x
/-- The map of maps, k posts read; S tells which records have one. -/
structure PlS (w : World) (M k m : Nat) (T : List PT) (f : Int) (S : Int → Prop) (g : Int → Option Nat) : Prop where
  outer : Vm.Map 3 w M m (gF g)
  ids : ∀ x, (g x).isSome = true ↔ S x
  inner : ∀ x b, g x = some b → Vm.Map 9 w b k (lkF (T.take k) f x) ∧ M < b
  sep : ∀ x y b, g x = some b → g y = some b → x = y
theorem PlS.congr {w : World} {M k m : Nat} {T : List PT} {f : Int} {S S' : Int → Prop} {g : Int → Option Nat} (h : PlS w M k m T f S g) (hS : ∀ x, S x ↔ S' x) : PlS w M k m T f S' g :=
  ⟨h.outer, fun x => (h.ids x).trans (hS x), h.inner, h.sep⟩
theorem PlS.below {w w' : World} {M k m : Nat} {T : List PT} {f : Int} {S : Int → Prop} {g : Int → Option Nat} (h : PlS w M k m T f S g) (hb : Below w.heap.size w w') : PlS w' M k m T f S g :=
  ⟨h.outer.below hb, h.ids, fun x b hx => ⟨(h.inner x b hx).1.below hb, (h.inner x b hx).2⟩, h.sep⟩
theorem PlS.start (w : World) (T : List PT) (f : Int) : PlS (w.alloc (.map #[] 0)) w.heap.size 0 0 T f (ofB (T.take 0) f) (fun _ => none) := by
  refine ⟨?_, fun x => ⟨(fun h => by cases h), fun ⟨t, ht, _⟩ => by simp at ht⟩, (fun x b h => by cases h), (fun x y b h => by cases h)⟩
  have h := Vm.Map.made 3 w
  have e : gF (fun _ => none) = fun _ => none := by
    funext y
    unfold gF
    split <;> rfl
  rw [e]
  exact h
/-- A post of another field. -/
theorem PlS.skip {w : World} {M k m : Nat} {T : List PT} {f : Int} {g : Int → Option Nat} {t : PT} (h : PlS w M k m T f (ofB (T.take k) f) g) (ht : T[k]? = some t) (hf : t.1.fld ≠ f) : PlS w M (k + 1) m T f (ofB (T.take (k + 1)) f) g := by
  refine ⟨h.outer, fun x => (h.ids x).trans ?_, fun x b hx => ⟨?_, (h.inner x b hx).2⟩, h.sep⟩
  · unfold ofB
    rw [take_snoc ht]
    constructor
    · rintro ⟨u, hu, h1⟩
      exact ⟨u, List.mem_append_left _ hu, h1⟩
    · rintro ⟨u, hu, h1, h2⟩
      rcases List.mem_append.1 hu with hu | hu
      · exact ⟨u, hu, h1, h2⟩
      · rw [List.mem_singleton] at hu
        rw [hu] at h1
        exact absurd h1 hf
  · rw [lkF_other ht (.inl hf)]
    exact ((h.inner x b hx).1).mono (Nat.le_succ k)
/-- A map made for a record that has none, and laid into the map of maps. -/
theorem PlS.fresh {w wA w' : World} {M k m b : Nat} {T : List PT} {f id : Int} {g : Int → Option Nat} (h : PlS w M k m T f (ofB (T.take k) f) g) (hn : g id = none) (hA : Below w.heap.size w wA)
    (hb : Vm.Map 9 wA b 0 (fun _ => none)) (hbl : w.heap.size ≤ b) (hM : Vm.Map 3 w' M (m + 1) (Vm.upd (gF g) (.int .i64 id) (.map (some b)))) (hg : wA.grownBy w' (some M)) :
    PlS w' M k (m + 1) T f (fun x => ofB (T.take k) f x ∨ x = id) (fun x => if x = id then some b else g x) := by
  have hML := h.outer.lt
  have hs := hA.size
  refine ⟨by rw [← gF_put]; exact hM, fun x => ?_, fun x b2 hx => ?_, fun x y b2 hx hy => ?_⟩
  · by_cases e : x = id
    · rw [if_pos e]; exact ⟨fun _ => .inr e, fun _ => rfl⟩
    · rw [if_neg e, h.ids x]; exact ⟨.inl, fun h9 => h9.resolve_right e⟩
  · by_cases e : x = id
    · rw [if_pos e] at hx
      injection hx with hx
      subst hx e
      refine ⟨?_, by omega⟩
      have e2 : lkF (T.take k) f x = fun _ => none := by
        funext y
        cases y with
        | string s =>
          rw [lkF_str]
          unfold lk
          cases hc : (List.filter (hitP f x s) (T.take k)).getLast? with
          | none => rfl
          | some u =>
            obtain ⟨h1, h2⟩ := List.mem_filter.1 (List.mem_of_getLast? hc)
            have := (h.ids x).2 ⟨u, h1, (hitP_iff.1 h2).1, (hitP_iff.1 h2).2.1⟩
            rw [hn] at this
            cases this
        | _ => rfl
      rw [e2]
      exact (hb.kept hg (fun e9 => by injection e9; omega)).mono (Nat.zero_le _)
    · rw [if_neg e] at hx
      obtain ⟨h1, h2⟩ := h.inner x b2 hx
      exact ⟨(h1.below hA).kept hg (fun e9 => by injection e9; omega), h2⟩
  · have key : ∀ {x : Int}, g x = some b → False := fun {x} h9 => by
      have := (h.inner x b h9).1.lt
      omega
    by_cases e1 : x = id <;> by_cases e2 : y = id
    · rw [e1, e2]
    · rw [if_pos e1] at hx
      rw [if_neg e2] at hy
      injection hx with hx
      rw [← hx] at hy
      exact (key hy).elim
    · rw [if_neg e1] at hx
      rw [if_pos e2] at hy
      injection hy with hy
      rw [← hy] at hx
      exact (key hx).elim
    · rw [if_neg e1] at hx
      rw [if_neg e2] at hy
      exact h.sep x y b2 hx hy
/-- The places of a post laid into its record's map. -/
theorem PlS.word {w w' : World} {M k m b : Nat} {T : List PT} {f : Int} {S : Int → Prop} {g : Int → Option Nat} {t : PT} (h : PlS w M k m T f S g) (ht : T[k]? = some t) (hf : t.1.fld = f) (hS : ∀ x, S x ↔ ofB (T.take k) f x ∨ x = t.1.id) (hg1 : g t.1.id = some b)
    (hM : Vm.Map 9 w' b (k + 1) (Vm.upd (lkF (T.take k) f t.1.id) (.string t.1.word) (.slice t.2.1 t.1.at_.length t.2.2))) (hg : w.grownBy w' (some b)) : PlS w' M (k + 1) m T f (ofB (T.take (k + 1)) f) g := by
  have hMb := (h.inner _ _ hg1).2
  refine ⟨h.outer.kept hg (fun e9 => by injection e9; omega), fun x => (h.ids x).trans ((hS x).trans ?_), fun x b2 hx => ⟨?_, (h.inner x b2 hx).2⟩, h.sep⟩
  · unfold ofB
    rw [take_snoc ht]
    constructor
    · rintro (⟨u, hu, h1⟩ | rfl)
      · exact ⟨u, List.mem_append_left _ hu, h1⟩
      · exact ⟨t, List.mem_append_right _ (by simp), hf, rfl⟩
    · rintro ⟨u, hu, h1, h2⟩
      rcases List.mem_append.1 hu with hu | hu
      · exact .inl ⟨u, hu, h1, h2⟩
      · rw [List.mem_singleton] at hu
        rw [hu] at h2
        exact .inr h2.symm
  · by_cases e : x = t.1.id
    · subst e
      rw [hg1] at hx
      injection hx with hx
      subst hx
      rw [lkF_take f ht hf]
      exact hM
    · have hne : b2 ≠ b := fun e9 => e (h.sep x t.1.id b (by rw [← e9]; exact hx) hg1)
      rw [lkF_other ht (.inr (fun e9 => e e9.symm))]
      exact ((h.inner x b2 hx).1.kept hg (fun e9 => hne (by injection e9))).mono (Nat.le_succ k)
theorem lk_sl {w : World} {T : List PT} {f id : Int} {s : By} (h : Ats w T) : ∃ a c, (lkF T f id (.string s)).getD nilSl = .slice a (atL T f id s).length c ∧ IA w a c (atL T f id s) ∧ (atL T f id s).length ≤ 9223372036854775807 := by
  rw [lkF_str]
  unfold atL lk
  cases hc : (T.filter (hitP f id s)).getLast? with
  | none =>
    refine ⟨none, 0, rfl, ?_, by simp⟩
    obtain ⟨a, c, e, h1, _⟩ := IA.of_own (World.ownsRow_nil w 0 3 1) (xs := []) rfl
    injection e with e1 _ e2
    subst e1 e2
    exact h1
  | some t =>
    have ht := (List.mem_filter.1 (List.mem_of_getLast? hc)).1
    have h9 := h t ht
    refine ⟨t.2.1, t.2.2, rfl, h9, ?_⟩
    have h1 := h9.cap
    have h2 := h9.max
    unfold maxLen at h2
    show t.1.at_.length ≤ _
    omega
end Ix
end Go.Proofs.YtcjalpegffldaaaGreatDoor

/- The program's follows: what the call returns. -/
namespace Go.Proofs.YtcjalpegffldaaaGreatDoor
open Go.RowKit
set_option maxRecDepth 100000

theorem ix_cont_c (L : List Int) (a : Option Addr) (c : Nat) (x : Int) (w : World) (h : Ix.IA w a c L) : Calls Tryz.prog 82 #[.slice a L.length c, .int .i64 x] w fun e w' => e = .returned (.bool (L.contains x)) ∧ w' = w := by
  by_cases hne : L = []
  · subst hne
    exact Tryz.slices_Contains_int_empty a c x w
  · obtain ⟨b, o, h1, h2⟩ := h.at_
    obtain ⟨rfl, hb⟩ := h1 hne
    have hcap := h.cap
    have hmax := h.max
    unfold maxLen at hmax
    have hx := Tryz.slices_Contains_int b o L.length c L x w (Nat.le_refl _) (by omega) (fun j hj => by
      have := h2 j 0 _ _ (List.getElem?_eq_getElem hj) rfl
      rw [Nat.mul_one, Nat.add_zero] at this
      rw [this, List.getD_eq_getElem?_getD, List.getElem?_eq_getElem hj]; rfl)
    rw [List.take_length] at hx
    exact hx

theorem Ix.slzero (w : World) : (zeroValue 41).run Tryz.prog w = .ok (.slice none 0 0) w := by kernel_rfl
theorem Ix.mzero (w : World) : (zeroValue 81).run Tryz.prog w = .ok (.map none) w := by kernel_rfl
set_option maxHeartbeats 1600000 in
theorem ix_follows_c (T : List Ix.PT) (f id start : Int) (b n : Nat) (ws : List Ix.By) (wa : Option Addr) (wc : Nat) (w : World) (hM : Vm.Map 9 w b n (Ix.lkF T f id)) (hA : Ix.Ats w T) (hw : SLA w wa wc (ws.map fun x => (⟨x.toArray⟩ : ByteArray))) (hl : ws.length ≤ 1000) (hz : ∀ s ∈ ws, s.length ≤ 1000000) :
    Calls Tryz.prog 57 #[.map (some b), .slice wa ws.length wc, .int .i64 start] w fun e w' => e = .returned (.bool (Ix.folP T f id start 0 ws)) ∧ w = w' := by
  have HW := Lib.hid hw
  have hcap := hw.cap
  rw [List.length_map] at hcap
  have HA := Lib.hid hA
  have HM := Lib.hid hM
  have HZ := Lib.hid hz
  clear hw hA hM hz
  go_enter Tryz.func57, Tryz.ntmps57
  go_wp2
  go_loopw [11] (fun i wr => ∃ (k : Nat), k ≤ ws.length ∧ i = .int .i64 k ∧ Hid (Ix.folP T f id start k (ws.drop k) = Ix.folP T f id start 0 ws) ∧ wr = w) (fun i _ => ws.length - (intOf i).toNat)
  case atStart => exact ⟨0, Nat.zero_le _, rfl, Lib.hid rfl, rfl⟩
  case round =>
    obtain ⟨k, hk, rfl, hE, rfl⟩ := hrel
    by_cases hlt : k < ws.length
    · obtain ⟨s, hs⟩ : ∃ s, ws[k]? = some s := ⟨_, List.getElem?_eq_getElem hlt⟩
      have hdr := Ix.drop_cons hs
      obtain ⟨q, o, rfl, hq, c0⟩ := HW.out.get (k := k) (x := ⟨s.toArray⟩) (by rw [List.getElem?_map, hs]; rfl)
      have hsl := HZ.out s (List.mem_of_getElem? hs)
      obtain ⟨a, c, ev, hI, hll⟩ := Ix.lk_sl (f := f) (id := id) (s := s) HA.out
      have hrun := HM.out.look Ix.skey Tryz.underlying81 (Ix.slzero wr) (Ix.keyS s (by omega)) (v := .slice a (Ix.atL T f id s).length c) ev
      have hE2 := hE.out
      rw [hdr, Ix.folP] at hE2
      have HC := Lib.hid (ix_cont_c (Ix.atL T f id s) a c (IntKind.i64.wrap (start + (k : Int))) wr hI)
      rw [IntWalk.i64_left] at hE2 HC
      clear ev hI hdr hs
      cases hq : (Ix.atL T f id s).contains (wrap64 (start + (k : Int))) with
      | true =>
        rw [hq, Bool.true_and] at hE2
        rw [hq] at HC
        have HE2 := Lib.hid hE2
        clear hE2 hq
        go_wp2_with (go_at_call 82; ((with_reducible refine HC.out.mono ?_); rintro e w1 ⟨rfl, rfl⟩))
        go_roundw
        case rel => exact ⟨k + 1, hlt, by go_num, HE2, trivial⟩
        case measure => simp [intOf]; omega
      | false =>
        rw [hq, Bool.false_and] at hE2
        rw [hq] at HC
        have HE2 := Lib.hid hE2
        clear hE2 hq
        go_wp2_with (go_at_call 82; ((with_reducible refine HC.out.mono ?_); rintro e w1 ⟨rfl, rfl⟩))
        go_ret
        exact ⟨by rw [← HE2.out]; rfl, rfl⟩
    · obtain rfl : k = ws.length := by omega
      have hE2 := hE.out
      rw [List.drop_length, Ix.folP] at hE2
      have HE2 := Lib.hid hE2
      clear hE2 hE
      go_wp2
      go_ret
      exact ⟨by rw [← HE2.out]; rfl, rfl⟩
end Go.Proofs.YtcjalpegffldaaaGreatDoor
