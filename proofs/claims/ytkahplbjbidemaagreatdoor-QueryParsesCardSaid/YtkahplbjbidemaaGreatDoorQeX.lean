/- Two searches compared: what the program's Same returns. -/
import Derived.Test.YtkahplbjbidemaaGreatDoorQwX
import Derived.Test.YtkahplbjbidemaaGreatDoorQrX
import Derived.StillTailTactics
namespace Go.Proofs.YtkahplbjbidemaaGreatDoor
open Go.RowKit
set_option maxRecDepth 100000

namespace Qr
open Classical in
/-- Are two searches the same? -/
noncomputable def eqB (a b : Qy) : Bool := decide (a = b)
open Classical in
noncomputable def eqL (a b : List Qy) : Bool := decide (a = b)
open Classical in
theorem eqB_t {a b : Qy} : eqB a b = true ↔ a = b := by unfold eqB; exact decide_eq_true_iff
open Classical in
theorem eqB_f {a b : Qy} : eqB a b = false ↔ a ≠ b := by unfold eqB; exact decide_eq_false_iff_not
open Classical in
theorem eqL_t {a b : List Qy} : eqL a b = true ↔ a = b := by unfold eqL; exact decide_eq_true_iff
open Classical in
theorem eqL_f {a b : List Qy} : eqL a b = false ↔ a ≠ b := by unfold eqL; exact decide_eq_false_iff_not
theorem eqL_len {a b : List Qy} (h : a.length ≠ b.length) : eqL a b = false := eqL_f.2 fun e => h (by rw [e])
theorem eq_take {a b : List Qy} {k : Nat} {x y : Qy} (hx : a[k]? = some x) (hy : b[k]? = some y) (h : a.take k = b.take k) (he : x = y) : a.take (k + 1) = b.take (k + 1) := by
  rw [take_snoc hx, take_snoc hy, h, he]
theorem ne_at {a b : List Qy} {k : Nat} {x y : Qy} (hx : a[k]? = some x) (hy : b[k]? = some y) (he : x ≠ y) : eqL a b = false := eqL_f.2 fun e => he (by rw [e, hy] at hx; exact (Option.some.inj hx).symm)
end Qr

set_option maxHeartbeats 3200000 in
theorem EqualFunc_c (B : Nat) (ks ls : List Qr.Qy) (ka la : Option Addr) (kc lc : Nat) (w : World) (hk : Qr.KA B w ka kc ks) (hl : Qr.KA B w la lc ls)
    (ih : ∀ k ∈ ks, ∀ l ∈ ls, ∀ (cs ds : List Value) (w : World), Qr.QC B w k cs → Qr.QC B w l ds → Calls Tryz.prog 19 #[.agg cs.toArray, .agg ds.toArray] w fun e w' => e = .returned (.bool (Qr.eqB k l)) ∧ Below w.heap.size w w') :
    Calls Tryz.prog 36 #[.slice ka ks.length kc, .slice la ls.length lc, .func (.func 19) #[] #[]] w fun e w' => e = .returned (.bool (Qr.eqL ks ls)) ∧ Below w.heap.size w w' := by
  have IH := Lib.hid ih; clear ih
  have hm1 := hk.max
  have hm2 := hl.max
  have hmx : maxLen = 9223372036854775807 := rfl
  by_cases hlen : ks.length = ls.length
  · have HL := Lib.hid hlen; clear hlen
    rw [← HL.out] at hm2 ⊢
    go_enter Tryz.func36, Tryz.ntmps36
    go_wp2
    go_loopw [17] (fun i wr => ∃ k : Nat, k ≤ ks.length ∧ i = .int .i64 k ∧ Hid (ks.take k = ls.take k) ∧ Below w.heap.size w wr) (fun i _ => ks.length - (intOf i).toNat)
    case atStart => exact ⟨0, Nat.zero_le _, rfl, Lib.hid (by rw [List.take_zero, List.take_zero]), Below.refl _ _⟩
    case round =>
      obtain ⟨k, hk2, rfl, hall, hb⟩ := hrel
      by_cases hlt : k < ks.length
      · obtain ⟨x, hx⟩ : ∃ x, ks[k]? = some x := ⟨_, List.getElem?_eq_getElem hlt⟩
        obtain ⟨y, hy⟩ : ∃ y, ls[k]? = some y := ⟨_, List.getElem?_eq_getElem (by rw [← HL.out]; exact hlt)⟩
        obtain ⟨b, o, sa2, sc2, ka2, kc2, rfl, hbl, d0, d1, d2, d3, d4, d5, hq⟩ := (hk.below hb).get hx
        obtain ⟨b2, o2, sa3, sc3, ka3, kc3, rfl, hbl3, e0, e1, e2, e3, e4, e5, hq3⟩ := (hl.below hb).get hy
        have hN := Tx.newb wr (.cells #[.int .i64 x.op, .int .i64 x.fld, .slice sa2 x.ws.length sc2, .int .i64 x.a, .int .i64 x.b, .slice ka2 x.ks.length kc2] 25)
        have f0 := cell_later hN e0
        have f1 := cell_later hN e1
        have f2 := cell_later hN e2
        have f3 := cell_later hN e3
        have f4 := cell_later hN e4
        have f5 := cell_later hN e5
        have hmem := List.mem_of_getElem? hx
        have hmem2 := List.mem_of_getElem? hy
        have HM := Lib.hid hmem; clear hmem
        have HM2 := Lib.hid hmem2; clear hmem2
        have HX := Lib.hid hq; clear hq
        have HY := Lib.hid hq3; clear hq3
        have h1 := Lib.hid (fun h => Qr.eq_take hx hy hall.out h)
        have h2 := Lib.hid (fun h => Qr.ne_at (a := ks) (b := ls) hx hy h)
        clear hx hy e0 e1 e2 e3 e4 e5 hN
        obtain ⟨t, ht⟩ : ∃ t, Qr.eqB x y = t := ⟨_, rfl⟩
        have HT := Lib.hid ht; clear ht
        cases t with
        | true =>
          go_wp2_with (go_at_call 19; refine (IH.out x HM.out y HM2.out _ _ _ ((HX.out.later (Tx.newb _ _)).later (Tx.newb _ _)) ((HY.out.later (Tx.newb _ _)).later (Tx.newb _ _))).mono ?_; rintro e w2 ⟨rfl, hb2⟩; rw [HT.out])
          go_roundw
          case rel => exact ⟨k + 1, hlt, by go_num, Lib.hid (h1.out (Qr.eqB_t.1 HT.out)), hb.trans ((((Tx.newb _ _).alloc (Tx.newb wr _).size _).trans (hb2.mono (by simp; omega))).mono hb.size)⟩
          case measure => simp [intOf]; omega
        | false =>
          go_wp2_with (go_at_call 19; refine (IH.out x HM.out y HM2.out _ _ _ ((HX.out.later (Tx.newb _ _)).later (Tx.newb _ _)) ((HY.out.later (Tx.newb _ _)).later (Tx.newb _ _))).mono ?_; rintro e w2 ⟨rfl, hb2⟩; rw [HT.out])
          go_ret
          exact ⟨Tx.retb (h2.out (Qr.eqB_f.1 HT.out)).symm, hb.trans ((((Tx.newb _ _).alloc (Tx.newb wr _).size _).trans (hb2.mono (by simp; omega))).mono hb.size)⟩
      · have hkk : k = ks.length := by omega
        subst hkk
        have hal := hall.out
        rw [List.take_length, HL.out, List.take_length] at hal
        have HA := Lib.hid hal; clear hall hal
        go_wp2
        go_ret
        exact ⟨Tx.retb (Qr.eqL_t.2 HA.out).symm, hb⟩
  · have hne : ¬ ((ks.length : Int) = ls.length) := by omega
    have HE := Lib.hid (Qr.eqL_len hlen); clear hlen
    go_enter Tryz.func36, Tryz.ntmps36
    go_wp2
    go_ret
    exact ⟨Tx.retb HE.out.symm, Below.refl _ _⟩
end Go.Proofs.YtkahplbjbidemaaGreatDoor

/- Two searches compared: what the program's Same returns. -/
namespace Go.Proofs.YtkahplbjbidemaaGreatDoor
open Go.RowKit
set_option maxRecDepth 100000

namespace Qr
theorem eqB_no {op fl ya yb op2 fl2 ya2 yb2 : Int} {ws ws2 : List ByteArray} {ks ks2 : List Qy} (h : ¬ (op = op2 ∧ fl = fl2 ∧ ya = ya2 ∧ yb = yb2)) : eqB (.mk op fl ws ya yb ks) (.mk op2 fl2 ws2 ya2 yb2 ks2) = false :=
  eqB_f.2 fun e => by injection e with e1 e2 e3 e4 e5 e6; exact h ⟨e1, e2, e4, e5⟩
theorem eqB_two {op fl ya yb : Int} {ws ws2 : List ByteArray} {ks ks2 : List Qy} : eqB (.mk op fl ws ya yb ks) (.mk op fl ws2 ya yb ks2) = (decide (ws = ws2) && eqL ks ks2) := by
  rw [Bool.eq_iff_iff, Bool.and_eq_true, decide_eq_true_iff, eqB_t, eqL_t]
  constructor
  · intro e; injection e with e1 e2 e3 e4 e5 e6; exact ⟨e3, e6⟩
  · rintro ⟨rfl, rfl⟩; rfl
end Qr

set_option maxHeartbeats 6400000 in
theorem Same_c (B : Nat) : ∀ (q : Qr.Qy) (q2 : Qr.Qy) (cs ds : List Value) (w : World), Qr.QC B w q cs → Qr.QC B w q2 ds → Qr.St q → Qr.St q2 →
    Calls Tryz.prog 19 #[.agg cs.toArray, .agg ds.toArray] w fun e w' => e = .returned (.bool (Qr.eqB q q2)) ∧ Below w.heap.size w w' := by
  refine Qr.Qy.ind ?_
  intro op fl ws ya yb ks ih q2 cs ds w h h2 hs hs2
  obtain ⟨sa, sc, ka, kc, rfl, hS, _, hK⟩ := h.kids
  obtain ⟨op2, fl2, ya2, yb2, ws2, ks2, sa2, sc2, ka2, kc2, rfl, rfl⟩ := h2.eta
  obtain ⟨sa2', sc2', ka2', kc2', e, hS2, _, hK2⟩ := h2.kids
  dsimp only [Qr.Qy.op, Qr.Qy.fld, Qr.Qy.a, Qr.Qy.b, Qr.Qy.ks, Qr.Qy.ws] at hK hK2 hS hS2 h h2 e ⊢
  simp only [List.cons.injEq, Value.slice.injEq, true_and, and_true] at e
  obtain ⟨⟨rfl, rfl⟩, rfl, rfl⟩ := e
  have s1 := (Qr.St.iff.1 hs).1
  have s2 := (Qr.St.iff.1 hs2).1
  have IH2 : Hid (∀ k ∈ ks, ∀ l ∈ ks2, ∀ (cs ds : List Value) (w : World), Qr.QC B w k cs → Qr.QC B w l ds → Calls Tryz.prog 19 #[.agg cs.toArray, .agg ds.toArray] w fun e w' => e = .returned (.bool (Qr.eqB k l)) ∧ Below w.heap.size w w') :=
    Lib.hid fun k hk l hl cs ds w a b => ih k hk l cs ds w a b ((Qr.St.iff.1 hs).2.2 k hk) ((Qr.St.iff.1 hs2).2.2 l hl)
  clear ih h h2 hs hs2
  obtain ⟨W, hW⟩ : ∃ W, (w.alloc (.cells #[.int .i64 op, .int .i64 fl, .slice sa ws.length sc, .int .i64 ya, .int .i64 yb, .slice ka ks.length kc] 25)).alloc (.cells #[.int .i64 op2, .int .i64 fl2, .slice sa2 ws2.length sc2, .int .i64 ya2, .int .i64 yb2, .slice ka2 ks2.length kc2] 25) = W := ⟨_, rfl⟩
  have hB : Below w.heap.size w W := by rw [← hW]; exact (Tx.newb _ _).alloc (Tx.newb w _).size _
  have c0 : W.cell? ⟨w.heap.size, 0, none⟩ = some (.int .i64 op) := by rw [← hW]; simp
  have c1 : W.cell? ⟨w.heap.size, 1, none⟩ = some (.int .i64 fl) := by rw [← hW]; simp
  have c2 : W.cell? ⟨w.heap.size, 2, none⟩ = some (.slice sa ws.length sc) := by rw [← hW]; simp
  have c3 : W.cell? ⟨w.heap.size, 3, none⟩ = some (.int .i64 ya) := by rw [← hW]; simp
  have c4 : W.cell? ⟨w.heap.size, 4, none⟩ = some (.int .i64 yb) := by rw [← hW]; simp
  have c5 : W.cell? ⟨w.heap.size, 5, none⟩ = some (.slice ka ks.length kc) := by rw [← hW]; simp
  have d0 : W.cell? ⟨w.heap.size + 1, 0, none⟩ = some (.int .i64 op2) := by rw [← hW]; simp
  have d1 : W.cell? ⟨w.heap.size + 1, 1, none⟩ = some (.int .i64 fl2) := by rw [← hW]; simp
  have d2 : W.cell? ⟨w.heap.size + 1, 2, none⟩ = some (.slice sa2 ws2.length sc2) := by rw [← hW]; simp
  have d3 : W.cell? ⟨w.heap.size + 1, 3, none⟩ = some (.int .i64 ya2) := by rw [← hW]; simp
  have d4 : W.cell? ⟨w.heap.size + 1, 4, none⟩ = some (.int .i64 yb2) := by rw [← hW]; simp
  have d5 : W.cell? ⟨w.heap.size + 1, 5, none⟩ = some (.slice ka2 ks2.length kc2) := by rw [← hW]; simp
  have HS := Lib.hid (hS.below hB); clear hS
  have HS2 := Lib.hid (hS2.below hB); clear hS2
  have HK := Lib.hid (hK.below hB); clear hK
  have HK2 := Lib.hid (hK2.below hB); clear hK2
  by_cases g : op = op2 ∧ fl = fl2 ∧ ya = ya2 ∧ yb = yb2
  · obtain ⟨rfl, rfl, rfl, rfl⟩ := g
    have HE := Lib.hid (Qr.eqB_two (op := op) (fl := fl) (ya := ya) (yb := yb) (ws := ws) (ws2 := ws2) (ks := ks) (ks2 := ks2))
    obtain ⟨t, ht⟩ : ∃ t, decide (ws = ws2) = t := ⟨_, rfl⟩
    rw [ht] at HE
    have HT := Lib.hid ht; clear ht
    cases t with
    | true =>
      obtain ⟨u, hu⟩ : ∃ u, Qr.eqL ks ks2 = u := ⟨_, rfl⟩
      rw [hu] at HE
      have HU := Lib.hid hu; clear hu
      go_enter Tryz.func19, Tryz.ntmps19
      go_wp2_with (first
        | (go_at_call 36; refine (EqualFunc_c B ks ks2 ka ka2 kc kc2 _ (HK.out.below hb1) (HK2.out.below hb1) IH2.out).mono ?_; rintro e w2 ⟨rfl, hb2⟩; rw [HU.out])
        | (go_at_call 35; refine (Equal_c _ _ ws ws2 _ HS.out HS2.out (by omega) (by omega)).mono ?_; rintro e w1 ⟨rfl, hb1⟩; rw [HT.out]; have x0 := cell_later hb1 c0; have x1 := cell_later hb1 c1; have x2 := cell_later hb1 c2; have x3 := cell_later hb1 c3; have x4 := cell_later hb1 c4; have x5 := cell_later hb1 c5; have y0 := cell_later hb1 d0; have y1 := cell_later hb1 d1; have y2 := cell_later hb1 d2; have y3 := cell_later hb1 d3; have y4 := cell_later hb1 d4; have y5 := cell_later hb1 d5))
      go_ret
      exact ⟨Tx.retb (by rw [HE.out]; rfl), hB.trans ((hb1.trans (hb2.mono hb1.size)).mono hB.size)⟩
    | false =>
      go_enter Tryz.func19, Tryz.ntmps19
      go_wp2_with (first
        | (go_at_call 35; refine (Equal_c _ _ ws ws2 _ HS.out HS2.out (by omega) (by omega)).mono ?_; rintro e w1 ⟨rfl, hb1⟩; rw [HT.out]; have x0 := cell_later hb1 c0; have x1 := cell_later hb1 c1; have x2 := cell_later hb1 c2; have x3 := cell_later hb1 c3; have x4 := cell_later hb1 c4; have x5 := cell_later hb1 c5; have y0 := cell_later hb1 d0; have y1 := cell_later hb1 d1; have y2 := cell_later hb1 d2; have y3 := cell_later hb1 d3; have y4 := cell_later hb1 d4; have y5 := cell_later hb1 d5))
      go_ret
      exact ⟨Tx.retb (by rw [HE.out]; rfl), hB.trans (hb1.mono hB.size)⟩
  · have HE := Lib.hid (Qr.eqB_no (ws := ws) (ws2 := ws2) (ks := ks) (ks2 := ks2) g)
    rcases (show op ≠ op2 ∨ (op = op2 ∧ fl ≠ fl2) ∨ (op = op2 ∧ fl = fl2 ∧ ya ≠ ya2) ∨ (op = op2 ∧ fl = fl2 ∧ ya = ya2 ∧ yb ≠ yb2) by omega) with g1 | ⟨rfl, g1⟩ | ⟨rfl, rfl, g1⟩ | ⟨rfl, rfl, rfl, g1⟩
    all_goals
      have g2 := beq_eq_false_iff_ne.2 g1
      clear g g1
      go_enter Tryz.func19, Tryz.ntmps19
      go_wp2
      go_ret
      exact ⟨Tx.retb HE.out.symm, hB⟩
end Go.Proofs.YtkahplbjbidemaaGreatDoor

/- Two searches compared: what the reference's Same returns. -/
namespace Go.Proofs.YtkahplbjbidemaaGreatDoor
open Go.RowKit
set_option maxRecDepth 100000

namespace Qr
theorem eqB_len {op fl ya yb op2 fl2 ya2 yb2 : Int} {ws ws2 : List ByteArray} {ks ks2 : List Qy} (h : ¬ (op = op2 ∧ fl = fl2 ∧ ya = ya2 ∧ yb = yb2 ∧ ws.length = ws2.length ∧ ks.length = ks2.length)) : eqB (.mk op fl ws ya yb ks) (.mk op2 fl2 ws2 ya2 yb2 ks2) = false :=
  eqB_f.2 fun e => by injection e with e1 e2 e3 e4 e5 e6; exact h ⟨e1, e2, e4, e5, by rw [e3], by rw [e6]⟩
theorem eq_takeW {a b : List ByteArray} {k : Nat} {x y : ByteArray} (hx : a[k]? = some x) (hy : b[k]? = some y) (h : a.take k = b.take k) (he : x = y) : a.take (k + 1) = b.take (k + 1) := by
  rw [take_snoc hx, take_snoc hy, h, he]
theorem ne_atW {a b : List ByteArray} {k : Nat} {x y : ByteArray} (hx : a[k]? = some x) (hy : b[k]? = some y) (he : x ≠ y) : decide (a = b) = false := by
  rw [decide_eq_false_iff_not]
  intro e
  rw [e, hy] at hx
  exact he (Option.some.inj hx).symm
theorem bne_ba {x y : ByteArray} : (x.toList == y.toList) = decide (x = y) := by
  rw [Bool.eq_iff_iff, beq_iff_eq, decide_eq_true_iff]
  simp [Lib.toList_data, ByteArray.ext_iff, ← Array.toList_inj]
end Qr

set_option maxHeartbeats 6400000 in
theorem r21_Same_c (B : Nat) : ∀ (q : Qr.Qy) (q2 : Qr.Qy) (cs ds : List Value) (w : World), Qr.QC B w q cs → Qr.QC B w q2 ds →
    Calls Tryz.prog 16 #[.agg cs.toArray, .agg ds.toArray] w fun e w' => e = .returned (.bool (Qr.eqB q q2)) ∧ Below w.heap.size w w' := by
  refine Qr.Qy.ind ?_
  intro op fl ws ya yb ks ih q2 cs ds w h h2
  obtain ⟨sa, sc, ka, kc, rfl, hS, _, hK⟩ := h.kids
  obtain ⟨op2, fl2, ya2, yb2, ws2, ks2, sa2, sc2, ka2, kc2, rfl, rfl⟩ := h2.eta
  obtain ⟨sa2', sc2', ka2', kc2', e, hS2, _, hK2⟩ := h2.kids
  dsimp only [Qr.Qy.op, Qr.Qy.fld, Qr.Qy.a, Qr.Qy.b, Qr.Qy.ks, Qr.Qy.ws] at hK hK2 hS hS2 h h2 e ⊢
  simp only [List.cons.injEq, Value.slice.injEq, true_and, and_true] at e
  obtain ⟨⟨rfl, rfl⟩, rfl, rfl⟩ := e
  have IH := Lib.hid ih; clear ih
  obtain ⟨_, hA, _, _⟩ := h.sla
  obtain ⟨_, hA2, _, _⟩ := h2.sla
  clear h h2 hS hS2
  have hmx : maxLen = 9223372036854775807 := rfl
  have hm1 := hK.max
  have hm2 := hK2.max
  have hw1 : ws.length ≤ 9223372036854775807 := by
    by_cases hne : ws = []
    · rw [hne]; decide
    · have := (hA hne).cap; have := (hA hne).max; omega
  have hw2 : ws2.length ≤ 9223372036854775807 := by
    by_cases hne : ws2 = []
    · rw [hne]; decide
    · have := (hA2 hne).cap; have := (hA2 hne).max; omega
  obtain ⟨W, hW⟩ : ∃ W, (w.alloc (.cells #[.int .i64 op, .int .i64 fl, .slice sa ws.length sc, .int .i64 ya, .int .i64 yb, .slice ka ks.length kc] 25)).alloc (.cells #[.int .i64 op2, .int .i64 fl2, .slice sa2 ws2.length sc2, .int .i64 ya2, .int .i64 yb2, .slice ka2 ks2.length kc2] 25) = W := ⟨_, rfl⟩
  have hB : Below w.heap.size w W := by rw [← hW]; exact (Tx.newb _ _).alloc (Tx.newb w _).size _
  have c0 : W.cell? ⟨w.heap.size, 0, none⟩ = some (.int .i64 op) := by rw [← hW]; simp
  have c1 : W.cell? ⟨w.heap.size, 1, none⟩ = some (.int .i64 fl) := by rw [← hW]; simp
  have c2 : W.cell? ⟨w.heap.size, 2, none⟩ = some (.slice sa ws.length sc) := by rw [← hW]; simp
  have c3 : W.cell? ⟨w.heap.size, 3, none⟩ = some (.int .i64 ya) := by rw [← hW]; simp
  have c4 : W.cell? ⟨w.heap.size, 4, none⟩ = some (.int .i64 yb) := by rw [← hW]; simp
  have c5 : W.cell? ⟨w.heap.size, 5, none⟩ = some (.slice ka ks.length kc) := by rw [← hW]; simp
  have d0 : W.cell? ⟨w.heap.size + 1, 0, none⟩ = some (.int .i64 op2) := by rw [← hW]; simp
  have d1 : W.cell? ⟨w.heap.size + 1, 1, none⟩ = some (.int .i64 fl2) := by rw [← hW]; simp
  have d2 : W.cell? ⟨w.heap.size + 1, 2, none⟩ = some (.slice sa2 ws2.length sc2) := by rw [← hW]; simp
  have d3 : W.cell? ⟨w.heap.size + 1, 3, none⟩ = some (.int .i64 ya2) := by rw [← hW]; simp
  have d4 : W.cell? ⟨w.heap.size + 1, 4, none⟩ = some (.int .i64 yb2) := by rw [← hW]; simp
  have d5 : W.cell? ⟨w.heap.size + 1, 5, none⟩ = some (.slice ka2 ks2.length kc2) := by rw [← hW]; simp
  have HA : Hid (ws ≠ [] → SLA W sa sc ws) := Lib.hid fun hn => (hA hn).below hB
  have HA2 : Hid (ws2 ≠ [] → SLA W sa2 sc2 ws2) := Lib.hid fun hn => (hA2 hn).below hB
  have HK := Lib.hid (hK.below hB); clear hK hA
  have HK2 := Lib.hid (hK2.below hB); clear hK2 hA2
  by_cases g : op = op2 ∧ fl = fl2 ∧ ya = ya2 ∧ yb = yb2 ∧ ws.length = ws2.length ∧ ks.length = ks2.length
  · obtain ⟨rfl, rfl, rfl, rfl, g5, g6⟩ := g
    have HE := Lib.hid (Qr.eqB_two (op := op) (fl := fl) (ya := ya) (yb := yb) (ws := ws) (ws2 := ws2) (ks := ks) (ks2 := ks2))
    have G5 := Lib.hid g5; have G6 := Lib.hid g6
    rw [← g5] at d2 hw2 hW
    rw [← g6] at d5 hm2 hW
    clear g5 g6
    rw [← G5.out, ← G6.out]
    go_enter Tryz.func16, Tryz.ntmps16
    go_wp2
    clear hW
    go_loopw [5] (fun i wr => ∃ k : Nat, k ≤ ws.length ∧ i = .int .i64 k ∧ Hid (ws.take k = ws2.take k) ∧ Below W.heap.size W wr) (fun i _ => ws.length - (intOf i).toNat)
    case atStart => exact ⟨0, Nat.zero_le _, rfl, Lib.hid (by rw [List.take_zero, List.take_zero]), Below.refl _ _⟩
    case round =>
      obtain ⟨k, hk, rfl, hall, hb⟩ := hrel
      have x2 := cell_later hb c2
      have y2 := cell_later hb d2
      have x5 := cell_later hb c5
      have y5 := cell_later hb d5
      by_cases hlt : k < ws.length
      · obtain ⟨x, hx⟩ : ∃ x, ws[k]? = some x := ⟨_, List.getElem?_eq_getElem hlt⟩
        obtain ⟨y, hy⟩ : ∃ y, ws2[k]? = some y := ⟨_, List.getElem?_eq_getElem (by rw [← G5.out]; exact hlt)⟩
        obtain ⟨b, o, rfl, hbl, z1⟩ := ((HA.out (by intro h0; rw [h0] at hlt; simp at hlt)).below hb).get hx
        obtain ⟨b2, o2, rfl, hbl2, z2⟩ := ((HA2.out (by intro h0; rw [h0] at hy; simp at hy)).below hb).get hy
        have h1 := Lib.hid (fun h => Qr.eq_takeW hx hy hall.out h)
        have h2 := Lib.hid (fun h => Qr.ne_atW (a := ws) (b := ws2) hx hy h)
        clear hx hy
        obtain ⟨t, ht⟩ : ∃ t, (x.toList == y.toList) = t := ⟨_, rfl⟩
        have HT : Hid (decide (x = y) = t) := Lib.hid (by rw [← Qr.bne_ba]; exact ht)
        cases t with
        | true =>
          go_wp2
          go_quiet (fail)
          go_wp2
          go_roundw
          case rel => exact ⟨k + 1, hlt, by go_num, Lib.hid (h1.out (decide_eq_true_iff.1 HT.out)), Tx.below_drewN hb _⟩
          case measure => simp [intOf]; omega
        | false =>
          go_wp2
          go_quiet (fail)
          go_wp2
          go_ret
          exact ⟨Tx.retb (by rw [HE.out, h2.out (decide_eq_false_iff_not.1 HT.out)]; rfl), hB.trans ((Tx.below_drewN hb _).mono hB.size)⟩
      · have hkk : k = ws.length := by omega
        subst hkk
        have hal := hall.out
        rw [List.take_length, G5.out, List.take_length] at hal
        have HW := Lib.hid hal; clear hal hall
        have hb1 := hb
        obtain ⟨w2, h2⟩ : ∃ w2, w2 = wr := ⟨_, rfl⟩
        subst h2
        clear hb
        go_wp2
        go_loopw [6] (fun i wr => ∃ k : Nat, k ≤ ks.length ∧ i = .int .i64 k ∧ Hid (ks.take k = ks2.take k) ∧ Below w2.heap.size w2 wr) (fun i _ => ks.length - (intOf i).toNat)
        case atStart => exact ⟨0, Nat.zero_le _, rfl, Lib.hid (by rw [List.take_zero, List.take_zero]), Below.refl _ _⟩
        case round =>
          obtain ⟨k, hk, rfl, hall, hb⟩ := hrel
          have v5 := cell_later hb x5
          have u5 := cell_later hb y5
          by_cases hlt : k < ks.length
          · obtain ⟨x, hx⟩ : ∃ x, ks[k]? = some x := ⟨_, List.getElem?_eq_getElem hlt⟩
            obtain ⟨y, hy⟩ : ∃ y, ks2[k]? = some y := ⟨_, List.getElem?_eq_getElem (by rw [← G6.out]; exact hlt)⟩
            obtain ⟨b, o, sa3, sc3, ka3, kc3, rfl, hbl, p0, p1, p2, p3, p4, p5, hq⟩ := ((HK.out.below hb1).below hb).get hx
            obtain ⟨b2, o2, sa4, sc4, ka4, kc4, rfl, hbl3, r0, r1, r2, r3, r4, r5, hq3⟩ := ((HK2.out.below hb1).below hb).get hy
            have hmem := List.mem_of_getElem? hx
            have HM := Lib.hid hmem; clear hmem
            have HX := Lib.hid hq; clear hq
            have HY := Lib.hid hq3; clear hq3
            have h1 := Lib.hid (fun h => Qr.eq_take hx hy hall.out h)
            have h2 := Lib.hid (fun h => Qr.ne_at (a := ks) (b := ks2) hx hy h)
            clear hx hy
            obtain ⟨t, ht⟩ : ∃ t, Qr.eqB x y = t := ⟨_, rfl⟩
            have HT := Lib.hid ht; clear ht
            cases t with
            | true =>
              go_wp2
              go_still_tail 10, (by kernel_rfl)
              have hbq : Below wr.heap.size wr wr.drew := (Below.refl _ _).drew
              change wpList _ _ _ _ _ wr.drew
              generalize wr.drew = w6 at hbq ⊢
              go_wp2_with (go_at_call 16; refine (IH.out x HM.out y _ _ _ (HX.out.later hbq) (HY.out.later hbq)).mono ?_; rintro e w3 ⟨rfl, hb3⟩; rw [HT.out])
              go_roundw
              case rel => exact ⟨k + 1, hlt, by go_num, Lib.hid (h1.out (Qr.eqB_t.1 HT.out)), Tx.step (Tx.step hb hbq) hb3⟩
              case measure => simp [intOf]; omega
            | false =>
              go_wp2
              go_still_tail 10, (by kernel_rfl)
              have hbq : Below wr.heap.size wr wr.drew := (Below.refl _ _).drew
              change wpList _ _ _ _ _ wr.drew
              generalize wr.drew = w6 at hbq ⊢
              go_wp2_with (go_at_call 16; refine (IH.out x HM.out y _ _ _ (HX.out.later hbq) (HY.out.later hbq)).mono ?_; rintro e w3 ⟨rfl, hb3⟩; rw [HT.out])
              go_ret
              exact ⟨Tx.retb (by rw [HE.out, h2.out (Qr.eqB_f.1 HT.out), Bool.and_false]), hB.trans ((hb1.trans ((Tx.step (Tx.step hb hbq) hb3).mono hb1.size)).mono hB.size)⟩
          · have hkk : k = ks.length := by omega
            subst hkk
            have hal := hall.out
            rw [List.take_length, G6.out, List.take_length] at hal
            have HA3 := Lib.hid hal; clear hall hal
            go_wp2
            go_ret
            exact ⟨Tx.retb (by rw [HE.out, Qr.eqL_t.2 HA3.out, decide_eq_true HW.out]; rfl), hB.trans ((hb1.trans (hb.mono hb1.size)).mono hB.size)⟩
  · have HE := Lib.hid (Qr.eqB_len (ws := ws) (ws2 := ws2) (ks := ks) (ks2 := ks2) g)
    rcases (show op ≠ op2 ∨ (op = op2 ∧ fl ≠ fl2) ∨ (op = op2 ∧ fl = fl2 ∧ ya ≠ ya2) ∨ (op = op2 ∧ fl = fl2 ∧ ya = ya2 ∧ yb ≠ yb2) ∨ (op = op2 ∧ fl = fl2 ∧ ya = ya2 ∧ yb = yb2 ∧ ws.length ≠ ws2.length) ∨ (op = op2 ∧ fl = fl2 ∧ ya = ya2 ∧ yb = yb2 ∧ ws.length = ws2.length ∧ ks.length ≠ ks2.length) by omega) with g1 | ⟨rfl, g1⟩ | ⟨rfl, rfl, g1⟩ | ⟨rfl, rfl, rfl, g1⟩ | ⟨rfl, rfl, rfl, rfl, g1⟩ | ⟨rfl, rfl, rfl, rfl, g5, g1⟩
    all_goals
      first
        | have g2 := bne_iff_ne.2 g1
          clear g1
        | skip
      try rw [← g5] at d2 hW ⊢
      try clear g5
      clear g
      go_enter Tryz.func16, Tryz.ntmps16
      go_wp2
      go_ret
      exact ⟨Tx.retb HE.out.symm, hB⟩
end Go.Proofs.YtkahplbjbidemaaGreatDoor
