/- The reference's words, terms, ranges of years: what the calls return. -/
import Derived.Test.YtkahplbjbidemaaDoorQwX
import Derived.Test.YtkahplbjbidemaaDoorFwX
import Derived.Test.YtkahplbjbidemaaDoorQpP
namespace Go.Proofs.YtkahplbjbidemaaDoor
open Go.RowKit
set_option maxRecDepth 100000

theorem Qr.own_words {w : World} {B : Nat} {v : Value} {l : List UInt8} (h : w.ownsRow B 9 1 v (Tx.words l).length ((Tx.words l).map Tx.sv)) :
    ∃ a c, v = .slice a (Qr.wordsB l).length c ∧ SLA w a c (Qr.wordsB l) :=
  SLA.of_own h (by unfold Qr.wordsB; rw [List.map_map]; rfl)
theorem Qr.wordsB_len (l : List UInt8) : (Qr.wordsB l).length = (Tx.words l).length := by unfold Qr.wordsB; rw [List.length_map]
theorem Qr.wordsB_map (l : List UInt8) : (Qr.wordsB l).map (·.data.toList) = Tx.words l := by
  unfold Qr.wordsB
  rw [List.map_map]
  conv => rhs; rw [← List.map_id (Tx.words l)]
  rfl

end Go.Proofs.YtkahplbjbidemaaDoor

/- The reference's errors of a term and of a range of years: what the calls return. -/
namespace Go.Proofs.YtkahplbjbidemaaDoor
open Go.RowKit
set_option maxRecDepth 100000

end Go.Proofs.YtkahplbjbidemaaDoor

/- The reference's errors of a search that combines others: what the call returns. -/
namespace Go.Proofs.YtkahplbjbidemaaDoor
open Go.RowKit
set_option maxRecDepth 100000

end Go.Proofs.YtkahplbjbidemaaDoor

/- The reference's errors of a search: what the calls return. -/
namespace Go.Proofs.YtkahplbjbidemaaDoor
open Go.RowKit
set_option maxRecDepth 100000

end Go.Proofs.YtkahplbjbidemaaDoor

/- The reference's Right, short and Small: what the calls return. -/
namespace Go.Proofs.YtkahplbjbidemaaDoor
open Go.RowKit
set_option maxRecDepth 100000

namespace Qr
theorem QC.eta {B : Nat} {w : World} {q : Qy} {cs : List Value} (h : QC B w q cs) : ∃ op fl ya yb ws ks sa sc ka kc, q = .mk op fl ws ya yb ks ∧ cs = [.int .i64 op, .int .i64 fl, .slice sa ws.length sc, .int .i64 ya, .int .i64 yb, .slice ka ks.length kc] := by
  cases h with
  | mk _ _ _ _ _ _ => exact ⟨_, _, _, _, _, _, _, _, _, _, rfl, rfl⟩
end Qr

namespace Qr
/-- No node has more than 20 words, of at most 200 bytes each. -/
inductive St : Qy → Prop
  | mk {op f a b : Int} {ws : List ByteArray} {ks : List Qy} (h0 : ws.length ≤ 20) (h1 : ∀ x ∈ ws, x.size ≤ 200) (h2 : ∀ k ∈ ks, St k) : St (.mk op f ws a b ks)
theorem St.iff {op f a b : Int} {ws : List ByteArray} {ks : List Qy} : St (.mk op f ws a b ks) ↔ ws.length ≤ 20 ∧ (∀ x ∈ ws, x.size ≤ 200) ∧ ∀ k ∈ ks, St k :=
  ⟨fun h => by cases h with | mk a b c => exact ⟨a, b, c⟩, fun h => .mk h.1 h.2.1 h.2.2⟩
theorem St.wz {q : Qy} (h : St q) : Wz 1000000 q := by
  induction h with
  | mk h0 h1 _ ih => exact .mk (fun x hx => Nat.le_trans (h1 x hx) (by decide)) ih
open Classical in
noncomputable def stB (q : Qy) : Bool := decide (St q)
open Classical in
theorem stB_t {q : Qy} : stB q = true ↔ St q := by unfold stB; exact decide_eq_true_iff
theorem stB_f {q : Qy} : stB q = false ↔ ¬ St q := by rw [← stB_t]; simp
end Qr

set_option maxHeartbeats 3200000 in
theorem r21_short_c (B : Nat) : ∀ (q : Qr.Qy) (cs : List Value) (w : World), Qr.QC B w q cs →
    Calls Tryd.prog 12 #[.agg cs.toArray] w fun e w' => e = .returned (.bool (Qr.stB q)) ∧ Below w.heap.size w w' := by
  refine Qr.Qy.ind ?_
  intro op fl ws ya yb ks ih cs w h
  obtain ⟨sa, sc, ka, kc, rfl, _, _, hK⟩ := h.kids
  dsimp only [Qr.Qy.op, Qr.Qy.fld, Qr.Qy.a, Qr.Qy.b, Qr.Qy.ks, Qr.Qy.ws] at hK h ⊢
  have IH := Lib.hid ih; clear ih
  obtain ⟨_, hA, _, _⟩ := h.sla
  have hmx : maxLen = 9223372036854775807 := rfl
  have hwmax : ws.length ≤ 9223372036854775807 := by
    by_cases hne : ws = []
    · rw [hne]; decide
    · have := (hA hne).cap; have := (hA hne).max; omega
  obtain ⟨W, hW⟩ : ∃ W, w.alloc (.cells #[.int .i64 op, .int .i64 fl, .slice sa ws.length sc, .int .i64 ya, .int .i64 yb, .slice ka ks.length kc] 25) = W := ⟨_, rfl⟩
  have hB : Below w.heap.size w W := by rw [← hW]; exact Tx.newb _ _
  have c0 : W.cell? ⟨w.heap.size, 0, none⟩ = some (.int .i64 op) := by rw [← hW]; simp
  have c1 : W.cell? ⟨w.heap.size, 1, none⟩ = some (.int .i64 fl) := by rw [← hW]; simp
  have c2 : W.cell? ⟨w.heap.size, 2, none⟩ = some (.slice sa ws.length sc) := by rw [← hW]; simp
  have c3 : W.cell? ⟨w.heap.size, 3, none⟩ = some (.int .i64 ya) := by rw [← hW]; simp
  have c4 : W.cell? ⟨w.heap.size, 4, none⟩ = some (.int .i64 yb) := by rw [← hW]; simp
  have c5 : W.cell? ⟨w.heap.size, 5, none⟩ = some (.slice ka ks.length kc) := by rw [← hW]; simp
  have hS := hK.below hB
  have hmax := hK.max
  have HA : Hid (ws ≠ [] → SLA W sa sc ws) := Lib.hid fun hn => (hA hn).below hB
  clear h hK hA
  have hI : Qr.St (.mk op fl ws ya yb ks) ↔ ws.length ≤ 20 ∧ (∀ x ∈ ws, x.size ≤ 200) ∧ ∀ k ∈ ks, Qr.St k := Qr.St.iff
  have HI := Lib.hid hI; clear hI
  by_cases h20 : 20 < ws.length
  · go_enter Tryd.func12, Tryd.ntmps12
    go_wp2
    go_ret
    exact ⟨Tx.retb (Qr.stB_f.2 fun h => by have := (HI.out.1 h).1; omega).symm, hB⟩
  · go_enter Tryd.func12, Tryd.ntmps12
    go_wp2
    go_loopw [3] (fun i wr => ∃ k : Nat, k ≤ ws.length ∧ i = .int .i64 k ∧ Hid (∀ x ∈ ws.take k, x.size ≤ 200) ∧ Below W.heap.size W wr) (fun i _ => ws.length - (intOf i).toNat)
    case atStart => exact ⟨0, Nat.zero_le _, rfl, Lib.hid (by simp), Below.refl _ _⟩
    case round =>
      obtain ⟨k, hk, rfl, hall, hb⟩ := hrel
      have e2 := cell_later hb c2
      have e5 := cell_later hb c5
      by_cases hlt : k < ws.length
      · obtain ⟨x, hx⟩ : ∃ x, ws[k]? = some x := ⟨_, List.getElem?_eq_getElem hlt⟩
        have hne : ws ≠ [] := by intro h0; rw [h0] at hlt; simp at hlt
        obtain ⟨b, o, rfl, hbl, d0⟩ := ((HA.out hne).below hb).get hx
        have htk := Qr.take_snoc hx
        have hmem := List.mem_of_getElem? hx
        have HM := Lib.hid hmem; clear hmem
        have HTK := Lib.hid htk; clear htk hx hne
        by_cases h200 : 200 < x.size
        · go_wp2
          go_ret
          exact ⟨Tx.retb (Qr.stB_f.2 fun h => by have := (HI.out.1 h).2.1 x HM.out; omega).symm, hB.trans (hb.mono hB.size)⟩
        · go_wp2
          go_roundw
          case rel => exact ⟨k + 1, hlt, by go_num, Lib.hid (by rw [HTK.out]; intro y hy; rcases List.mem_append.1 hy with hy | hy; exact hall.out y hy; rw [List.mem_singleton] at hy; rw [hy]; omega), hb⟩
          case measure => simp [intOf]; omega
      · have hkk : k = ws.length := by omega
        subst hkk
        have hal := hall.out
        rw [List.take_length] at hal
        have HW := Lib.hid hal; clear hal hall
        have hS2 := hS.below hb
        have hb1 := hb
        obtain ⟨w2, h2⟩ : ∃ w2, w2 = wr := ⟨_, rfl⟩
        subst h2
        clear hb
        go_wp2
        go_loopw [4] (fun i wr => ∃ k : Nat, k ≤ ks.length ∧ i = .int .i64 k ∧ Hid (∀ x ∈ ks.take k, Qr.St x) ∧ Below w2.heap.size w2 wr) (fun i _ => ks.length - (intOf i).toNat)
        case atStart => exact ⟨0, Nat.zero_le _, rfl, Lib.hid (by simp), Below.refl _ _⟩
        case round =>
          obtain ⟨k, hk, rfl, hall, hb⟩ := hrel
          have f5 := cell_later hb e5
          by_cases hlt : k < ks.length
          · obtain ⟨x, hx⟩ : ∃ x, ks[k]? = some x := ⟨_, List.getElem?_eq_getElem hlt⟩
            obtain ⟨b, o, sa2, sc2, ka2, kc2, rfl, hbl, d0, d1, d2, d3, d4, d5, hq⟩ := (hS2.below hb).get hx
            have hmem := List.mem_of_getElem? hx
            have htk := Qr.take_snoc hx
            have HM := Lib.hid hmem; clear hmem
            have HX := Lib.hid hq; clear hq
            have HTK := Lib.hid htk; clear htk hx
            obtain ⟨t, ht⟩ : ∃ t, Qr.stB x = t := ⟨_, rfl⟩
            have HT := Lib.hid ht; clear ht
            cases t with
            | true =>
              go_wp2_with (go_at_call 12; refine (IH.out x HM.out _ _ HX.out).mono ?_; rintro e w3 ⟨rfl, hb3⟩; rw [HT.out])
              go_roundw
              case rel => exact ⟨k + 1, hlt, by go_num, Lib.hid (by rw [HTK.out]; intro y hy; rcases List.mem_append.1 hy with hy | hy; exact hall.out y hy; rw [List.mem_singleton] at hy; rw [hy]; exact Qr.stB_t.1 HT.out), hb.trans (hb3.mono hb.size)⟩
              case measure => simp [intOf]; omega
            | false =>
              go_wp2_with (go_at_call 12; refine (IH.out x HM.out _ _ HX.out).mono ?_; rintro e w3 ⟨rfl, hb3⟩; rw [HT.out])
              go_ret
              exact ⟨Tx.retb (Qr.stB_f.2 fun h => Qr.stB_f.1 HT.out ((HI.out.1 h).2.2 x HM.out)).symm, hB.trans ((hb1.trans ((hb.trans (hb3.mono hb.size)).mono hb1.size)).mono hB.size)⟩
          · have hkk : k = ks.length := by omega
            subst hkk
            have hal := hall.out
            rw [List.take_length] at hal
            have HA2 := Lib.hid hal; clear hal hall
            go_wp2
            go_ret
            exact ⟨Tx.retb (Qr.stB_t.2 (HI.out.2 ⟨by omega, HW.out, HA2.out⟩)).symm, hB.trans ((hb1.trans (hb.mono hb1.size)).mono hB.size)⟩

namespace Qr
/-- A search as the laws take it. -/
def Sm (q : Qy) : Prop := nodes q ≤ 200 ∧ St q
open Classical in
noncomputable def smB (q : Qy) : Bool := decide (Sm q)
open Classical in
theorem smB_t {q : Qy} : smB q = true ↔ Sm q := by unfold smB; exact decide_eq_true_iff
theorem smB_f {q : Qy} : smB q = false ↔ ¬ Sm q := by rw [← smB_t]; simp
end Qr
set_option maxHeartbeats 1600000 in
theorem r21_Small_c (B : Nat) (q : Qr.Qy) (cs : List Value) (w : World) (h : Qr.QC B w q cs) :
    Calls Tryd.prog 5 #[.agg cs.toArray] w fun e w' => e = .returned (.bool (Qr.smB q)) ∧ Below w.heap.size w w' := by
  obtain ⟨op, fl, ya, yb, ws, ks, sa, sc, ka, kc, hq, rfl⟩ := h.eta
  clear hq
  obtain ⟨W, hW⟩ : ∃ W, w.alloc (.cells #[.int .i64 op, .int .i64 fl, .slice sa ws.length sc, .int .i64 ya, .int .i64 yb, .slice ka ks.length kc] 25) = W := ⟨_, rfl⟩
  have hB : Below w.heap.size w W := by rw [← hW]; exact Tx.newb _ _
  have c0 : W.cell? ⟨w.heap.size, 0, none⟩ = some (.int .i64 op) := by rw [← hW]; simp
  have c1 : W.cell? ⟨w.heap.size, 1, none⟩ = some (.int .i64 fl) := by rw [← hW]; simp
  have c2 : W.cell? ⟨w.heap.size, 2, none⟩ = some (.slice sa ws.length sc) := by rw [← hW]; simp
  have c3 : W.cell? ⟨w.heap.size, 3, none⟩ = some (.int .i64 ya) := by rw [← hW]; simp
  have c4 : W.cell? ⟨w.heap.size, 4, none⟩ = some (.int .i64 yb) := by rw [← hW]; simp
  have c5 : W.cell? ⟨w.heap.size, 5, none⟩ = some (.slice ka ks.length kc) := by rw [← hW]; simp
  have HQ := Lib.hid (h.later hB); clear h
  obtain ⟨n, hnn⟩ : ∃ n, Qr.nodes q = n := ⟨_, rfl⟩
  obtain ⟨t, ht⟩ : ∃ t, Qr.stB q = t := ⟨_, rfl⟩
  have hm : Qr.smB q = (decide (n ≤ 200) && t) := by
    rw [Bool.eq_iff_iff, Qr.smB_t, Bool.and_eq_true, decide_eq_true_iff, ← ht, Qr.stB_t, ← hnn]
    rfl
  have HNN := Lib.hid hnn
  have HTT := Lib.hid ht
  have HM := Lib.hid hm
  clear hnn ht hm
  by_cases g1 : n ≤ 200
  · have g1m : min n (200 + 1) = n := by omega
    have GM := Lib.hid g1m; clear g1m
    go_enter Tryd.func5, Tryd.ntmps5
    go_wp2_with (first
      | (go_at_call 11; refine (r21_Nodes_c B q _ 200 W HQ.out (by omega)).mono ?_; rintro e w1 ⟨rfl, hb1⟩; rw [HNN.out, GM.out]; have e0 := cell_later hb1 c0; have e1 := cell_later hb1 c1; have e2 := cell_later hb1 c2; have e3 := cell_later hb1 c3; have e4 := cell_later hb1 c4; have e5 := cell_later hb1 c5)
      | (go_at_call 12; refine (r21_short_c B q _ _ (HQ.out.later hb1)).mono ?_; rintro e w2 ⟨rfl, hb2⟩; rw [HTT.out]))
    go_ret
    exact ⟨Tx.retb (by rw [HM.out, decide_eq_true g1]; rfl), hB.trans ((hb1.trans (hb2.mono hb1.size)).mono hB.size)⟩
  · have g1m : min n (200 + 1) = 201 := by omega
    have GM := Lib.hid g1m; clear g1m
    go_enter Tryd.func5, Tryd.ntmps5
    go_wp2_with (go_at_call 11; refine (r21_Nodes_c B q _ 200 W HQ.out (by omega)).mono ?_; rintro e w1 ⟨rfl, hb1⟩; rw [HNN.out, GM.out])
    go_ret
    exact ⟨Tx.retb (by rw [HM.out, decide_eq_false g1]; rfl), hB.trans (hb1.mono hB.size)⟩
end Go.Proofs.YtkahplbjbidemaaDoor
