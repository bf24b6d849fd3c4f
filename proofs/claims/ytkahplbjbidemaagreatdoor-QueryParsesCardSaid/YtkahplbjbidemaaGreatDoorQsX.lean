/- A search as text, plain bounds; what the program's show returns for a term. -/
import Derived.Test.YtkahplbjbidemaaGreatDoorQuX
import Derived.Deep.RegionHeld3
import Derived.Lib.ItoaLen
namespace Go.Proofs.YtkahplbjbidemaaGreatDoor
open Go.RowKit
set_option maxRecDepth 100000

namespace Qr
/-- A search that can be shown. -/
inductive Sh : Qy → Prop
  | term {o f : Int} {ws : List ByteArray} (h1 : o = 1 ∨ o = 2 ∨ o = 3) (h2 : 0 ≤ f ∧ f ≤ 4) (h3 : 1 ≤ ws.length ∧ ws.length ≤ 8) : Sh (.mk o f ws 0 0 [])
  | years {a b : Int} (h1 : 1 ≤ a ∧ a ≤ 2199) (h2 : 1 ≤ b ∧ b ≤ 2199) : Sh (.mk 4 0 [] a b [])
  | kids {o : Int} {ks : List Qy} (h1 : o = 5 ∨ o = 6 ∨ o = 7) (h2 : ks.length ≤ 8) (h3 : ∀ k ∈ ks, Sh k) : Sh (.mk o 0 [] 0 0 ks)
theorem treeL_zero : ∀ (l : List Qy) (e : Int), treeL e l = 0 → e = 0 ∧ ∀ k ∈ l, treeE k = 0
  | [], e, h => ⟨by simpa [treeL] using h, fun k hk => by simp at hk⟩
  | k :: r, e, h => by
    by_cases he : e = 0
    · subst he
      rw [treeL, if_pos rfl] at h
      obtain ⟨h1, h2⟩ := treeL_zero r _ h
      refine ⟨rfl, fun x hx => ?_⟩
      rw [List.mem_cons] at hx
      rcases hx with rfl | hx
      · exact h1
      · exact h2 x hx
    · rw [treeL_bad he] at h
      exact absurd h he
theorem sh_of : ∀ q, treeE q = 0 → Sh q := by
  refine Qy.ind ?_
  intro o f ws a b ks ih h
  rw [treeE] at h
  obtain ⟨h1, h2⟩ := treeL_zero ks _ h
  have hk := fun k hk => ih k hk (h2 k hk)
  simp only [nodeE] at h1
  split at h1
  · rename_i ho
    unfold termE at h1
    repeat' split at h1
    all_goals first | (exfalso; omega) | skip
    rename_i c1 _ _ _
    have e1 : a = 0 := by omega
    have e2 : b = 0 := by omega
    have e3 : ks = [] := List.eq_nil_of_length_eq_zero (by omega)
    subst e1 e2 e3
    exact .term ho (by omega) (by omega)
  · split at h1
    · rename_i _ ho
      subst ho
      unfold yearsE at h1
      repeat' split at h1
      all_goals first | (exfalso; omega) | skip
      have e1 : f = 0 := by omega
      have e2 : ws = [] := List.eq_nil_of_length_eq_zero (by omega)
      have e3 : ks = [] := List.eq_nil_of_length_eq_zero (by omega)
      subst e1 e2 e3
      exact .years (by omega) (by omega)
    · split at h1
      · rename_i ho
        unfold kidsE at h1
        have e1 : f = 0 ∧ a = 0 ∧ b = 0 ∧ ws.length = 0 ∧ ks.length ≤ 8 := by
          repeat' split at h1
          all_goals first | (exfalso; omega) | omega
        obtain ⟨rfl, rfl, rfl, e4, e5⟩ := e1
        have e2 : ws = [] := List.eq_nil_of_length_eq_zero e4
        subst e2
        exact .kids ho e5 hk
      · exfalso; omega
end Qr
end Go.Proofs.YtkahplbjbidemaaGreatDoor

/- A search as text: what the program's show returns for a term and for a range of years. -/
namespace Go.Proofs.YtkahplbjbidemaaGreatDoor
open Go.RowKit
set_option maxRecDepth 100000

theorem names_at (k : Nat) (N : List UInt8) (hN : Qr.nms[k]? = some N) (w : World) : Calls Tryz.prog 57 #[] w fun e w' => ∃ b, e = .returned (.slice (some ⟨b, 0, none⟩) 5 5) ∧ Below w.heap.size w w' ∧ w'.cell? ⟨b, k, none⟩ = some (.string ⟨N.toArray⟩) := by
  refine (names_c w).mono ?_
  rintro e w' ⟨rfl, rfl⟩
  exact ⟨_, rfl, Tx.newb _ _, Qr.nms_cell (heap_alloc_new w _) hN⟩
namespace Qr
theorem fieldT_at {k : Nat} {N : List UInt8} (h : nms[k]? = some N) (h0 : k ≠ 0) : fieldT (k : Int) = N ++ [58] := by
  match k, h with
  | 0, h => exact absurd rfl h0
  | 1, h => injection h with h; subst h; rfl
  | 2, h => injection h with h; subst h; rfl
  | 3, h => injection h with h; subst h; rfl
  | 4, h => injection h with h; subst h; rfl
  | k + 5, h => simp [nms] at h
theorem nms_len {k : Nat} {N : List UInt8} (h : nms[k]? = some N) : N.length ≤ 3 := by
  match k, h with
  | 0, h => injection h with h; subst h; decide
  | 1, h => injection h with h; subst h; decide
  | 2, h => injection h with h; subst h; decide
  | 3, h => injection h with h; subst h; decide
  | 4, h => injection h with h; subst h; decide
  | k + 5, h => simp [nms] at h
theorem bys_head {ws : List ByteArray} {x : ByteArray} (h : ws[0]? = some x) : (bys ws).headD [] = x.data.toList := by
  cases ws with
  | nil => simp at h
  | cons y r => injection h with h; subst h; rfl
end Qr

set_option maxHeartbeats 3200000 in
theorem shows_t (o : Int) (ho : o = 1 ∨ o = 2 ∨ o = 3) (k : Nat) (N : List UInt8) (hN : Qr.nms[k]? = some N) (ws : List ByteArray) (X : List UInt8) (hx : ws[0]? = some ⟨X.toArray⟩) (h8 : ws.length ≤ 8) (hz : ∀ y ∈ ws, y.size ≤ 1000000) (b p : Nat) (sc : Nat) (ka : Option Addr) (kc : Nat) (w : World) (hS : SL w (.slice (some ⟨b, p, none⟩) ws.length sc) ws) (hcx : w.cell? ⟨b, p, none⟩ = some (.string ⟨X.toArray⟩)) :
    Calls Tryz.prog 33 #[.agg #[.int .i64 o, .int .i64 (k : Int), .slice (some ⟨b, p, none⟩) ws.length sc, .int .i64 0, .int .i64 0, .slice ka 0 kc]] w fun e w' => e = .returned (.string ⟨(Qr.text (.mk o (k : Int) ws 0 0 [])).toArray⟩) ∧ Below w.heap.size w w' := by
  obtain ⟨fl, hfl⟩ : ∃ fl : Int, fl = (k : Int) := ⟨_, rfl⟩
  have hxs := hz ⟨X.toArray⟩ (List.mem_of_getElem? hx)
  have hk5 : k < 5 := (List.getElem?_eq_some_iff.1 hN).1
  have hwl : 1 ≤ ws.length := by have := (List.getElem?_eq_some_iff.1 hx).1; omega
  have hnl := Qr.nms_len hN
  have hjl : (Lib.join (ws.map (·.data.toList)) [32]).length ≤ 9000000 := by
    have := Rc.join_le (ws.map (·.data.toList)) [32] 1000000 (fun y hy => by
      obtain ⟨z, hz', rfl⟩ := List.mem_map.1 hy
      have := hz z hz'
      rw [← Lib.size_eq]; exact this)
    rw [List.length_map] at this
    have h4 : ws.length * (1000000 + ([32] : List UInt8).length) ≤ 8 * (1000000 + 1) := Nat.mul_le_mul h8 (by simp)
    omega
  obtain ⟨J, hJ⟩ : ∃ J, Lib.join (ws.map (·.data.toList)) [32] = J := ⟨_, rfl⟩
  rw [hJ] at hjl
  have hT : Qr.text (.mk o (k : Int) ws 0 0 []) = if o = 1 then Qr.fieldT k ++ X else if o = 2 then Qr.fieldT k ++ (X ++ [42]) else Qr.fieldT k ++ ([34] ++ J ++ [34]) := by
    rw [Qr.text_eq, Qr.bys_head hx, ← hJ]
    rcases ho with rfl | rfl | rfl <;> rfl
  have HT := Lib.hid hT; clear hT
  have HJ := Lib.hid hJ; clear hJ
  have HF := Lib.hid (fun h => Qr.fieldT_at hN h)
  have HN := Lib.hid hN; clear hN hx
  obtain ⟨W, hW⟩ : ∃ W, w.alloc (.cells #[.int .i64 o, .int .i64 (k : Int), .slice (some ⟨b, p, none⟩) ws.length sc, .int .i64 0, .int .i64 0, .slice ka 0 kc] 25) = W := ⟨_, rfl⟩
  have hB : Below w.heap.size w W := by rw [← hW]; exact Tx.newb _ _
  have c0 : W.cell? ⟨w.heap.size, 0, none⟩ = some (.int .i64 o) := by rw [← hW]; simp
  have c1 : W.cell? ⟨w.heap.size, 1, none⟩ = some (.int .i64 (k : Int)) := by rw [← hW]; simp
  have c2 : W.cell? ⟨w.heap.size, 2, none⟩ = some (.slice (some ⟨b, p, none⟩) ws.length sc) := by rw [← hW]; simp
  have d0 := cell_later hB hcx
  have HS := Lib.hid (hS.below hB); clear hS hcx
  by_cases hk0 : k = 0
  · have hkb : ((k : Int) != 0) = false := by simp; omega
    have hk0' : Qr.fieldT (k : Int) = [] := by rw [hk0]; rfl
    obtain ⟨a1, a2, -⟩ := Tx.adds_ok Tryz.prog [⟨X.toArray⟩, ⟨#[42]⟩] ⟨#[]⟩ (by simp only [List.map_cons, List.map_nil, List.sum_cons, List.sum_nil, Tx.size_mk]; rw [Tx.size_mk] at hxs; simp; omega)
    obtain ⟨b1, b2, b3, -⟩ := Tx.adds_ok Tryz.prog [⟨#[34]⟩, ⟨J.toArray⟩, ⟨#[34]⟩] ⟨#[]⟩ (by simp only [List.map_cons, List.map_nil, List.sum_cons, List.sum_nil, Tx.size_mk]; rw [Tx.size_mk] at hxs; simp; omega)
    have HFK := Lib.hid hk0'; clear hk0' hk0 hfl
    rcases ho with rfl | rfl | rfl
    all_goals
      go_enter Tryz.func33, Tryz.ntmps33
      go_wp2_with (go_at_call 58; refine (Join_c _ ws ⟨#[32]⟩ _ HS.out (by rw [show Lib.join (ws.map (·.data.toList)) (⟨#[32]⟩ : ByteArray).data.toList = J from HJ.out]; omega) (by omega)).mono ?_; rintro e w4 ⟨rfl, hb4⟩; rw [show Lib.join (ws.map (·.data.toList)) (⟨#[32]⟩ : ByteArray).data.toList = J from HJ.out])
      go_ret
      first
        | exact ⟨Tx.rets (by rw [HT.out, HFK.out]; simp [Tx.bcat]), hB.trans (hb4.mono hB.size)⟩
        | exact ⟨Tx.rets (by rw [HT.out, HFK.out]; simp [Tx.bcat]), hB⟩
  · have hkb : ((k : Int) != 0) = true := by simp; omega
    have hFk := HF.out hk0
    obtain ⟨a1, a2, a3, -⟩ := Tx.adds_ok Tryz.prog [⟨#[58]⟩, ⟨X.toArray⟩, ⟨#[42]⟩] ⟨N.toArray⟩ (by simp only [List.map_cons, List.map_nil, List.sum_cons, List.sum_nil, Tx.size_mk]; rw [Tx.size_mk] at hxs; simp; omega)
    obtain ⟨b1, b2, b3, b4, -⟩ := Tx.adds_ok Tryz.prog [⟨#[58]⟩, ⟨#[34]⟩, ⟨J.toArray⟩, ⟨#[34]⟩] ⟨N.toArray⟩ (by simp only [List.map_cons, List.map_nil, List.sum_cons, List.sum_nil, Tx.size_mk]; rw [Tx.size_mk] at hxs; simp; omega)
    have HFK := Lib.hid hFk; clear hFk
    clear hk0 hfl
    rcases ho with rfl | rfl | rfl
    all_goals
      go_enter Tryz.func33, Tryz.ntmps33
      go_wp2
      clear hW
      go_region_with (go_at_call 57; refine (names_at k N HN.out _).mono ?_; rintro e w1 ⟨bn, rfl, hb1, dn⟩; have hb1' : Below W.heap.size W w1 := ((Below.refl _ _).drew).trans hb1; have f0 := cell_later hb1' c0; have f1 := cell_later hb1' c1; have f2 := cell_later hb1' c2; have f3 := cell_later hb1' d0)
      all_goals
        go_wp2_with (go_at_call 58; refine (Join_c _ ws ⟨#[32]⟩ _ (HS.out.below hb1') (by rw [show Lib.join (ws.map (·.data.toList)) (⟨#[32]⟩ : ByteArray).data.toList = J from HJ.out]; omega) (by omega)).mono ?_; rintro e w4 ⟨rfl, hb4⟩; rw [show Lib.join (ws.map (·.data.toList)) (⟨#[32]⟩ : ByteArray).data.toList = J from HJ.out])
        go_ret
        first
          | exact ⟨Tx.rets (by rw [HT.out, HFK.out]; simp [Tx.bcat]), hB.trans ((Tx.step hb1' hb4).mono hB.size)⟩
          | exact ⟨Tx.rets (by rw [HT.out, HFK.out]; simp [Tx.bcat]), hB.trans (hb1'.mono hB.size)⟩
end Go.Proofs.YtkahplbjbidemaaGreatDoor

/- A search as text: what the program's show returns. -/
namespace Go.Proofs.YtkahplbjbidemaaGreatDoor
open Go.RowKit
set_option maxRecDepth 100000

namespace Qr
theorem tail_sum (sep : List UInt8) : ∀ r : List (List UInt8), (Lib.joinTail sep r).length = (r.map fun x => x.length + sep.length).sum
  | [] => rfl
  | x :: r => by
    have := tail_sum sep r
    unfold Lib.joinTail at this ⊢
    simp only [List.map_cons, List.flatten_cons, List.length_append, List.sum_cons]
    omega
theorem join_sum (sep : List UInt8) : ∀ xs : List (List UInt8), (Lib.join xs sep).length ≤ (xs.map fun x => x.length + sep.length).sum
  | [] => by simp [Lib.join]
  | x :: r => by
    rw [Lib.join_cons, List.length_append, tail_sum, List.map_cons, List.sum_cons]
    omega
theorem sepT_le (o : Int) : (sepT o).length ≤ 5 := by unfold sepT; repeat' split
                                                      all_goals decide
theorem fieldT_le (o : Int) : (fieldT o).length ≤ 3 := by unfold fieldT; repeat' split
                                                          all_goals decide
theorem text_le : ∀ q, Sh q → Wz 1000000 q → (text q).length + 7 ≤ nodes q * 10000000 := by
  refine Qy.ind ?_
  intro o f ws a b ks ih hs hz
  rw [text_eq]
  cases hs with
  | term h1 h2 h3 =>
    have hf := fieldT_le f
    have hw := hz.ws
    have hh : ((bys ws).headD []).length ≤ 1000000 := by
      cases ws with
      | nil => simp [bys]
      | cons y r => have := hw y (by simp); rw [Lib.size_eq] at this; exact this
    have hj : (Lib.join (bys ws) [32]).length ≤ 9000000 := by
      have := Rc.join_le (bys ws) [32] 1000000 (fun y hy => by
        obtain ⟨z, hz', rfl⟩ := List.mem_map.1 hy
        have := hw z hz'
        rw [← Lib.size_eq]; exact this)
      unfold bys at this
      rw [List.length_map] at this
      have h4 : ws.length * (1000000 + ([32] : List UInt8).length) ≤ 8 * (1000000 + 1) := Nat.mul_le_mul h3.2 (by simp)
      unfold bys
      omega
    have hn : nodes (.mk o f ws 0 0 []) = 1 := rfl
    rw [hn]
    rcases h1 with rfl | rfl | rfl <;> simp only [reduceIte, List.length_append, List.length_cons, List.length_nil, Int.reduceEq] <;> omega
  | years h1 h2 =>
    have e1 := Lib.itoa_length_le a (by omega) (by omega)
    have e2 := Lib.itoa_length_le b (by omega) (by omega)
    have hn : nodes (.mk 4 0 [] a b []) = 1 := rfl
    rw [hn]
    simp only [reduceIte, List.length_append, List.length_cons, List.length_nil, Int.reduceEq]
    omega
  | kids h1 h2 h3 =>
    have hsum : ∀ l : List Qy, (∀ k ∈ l, k ∈ ks) → ((l.map parT).map fun x => x.length + (sepT o).length).sum ≤ nodesL l * 10000000 := by
      intro l
      induction l with
      | nil => intro _; simp
      | cons k r ih2 =>
        intro hl
        have hk := hl k (by simp)
        have hr := ih2 fun x hx => hl x (by simp [hx])
        have hk1 := ih k hk (h3 k hk) (hz.ks k hk)
        have hs5 := sepT_le o
        have hp : (parT k).length ≤ (text k).length + 2 := by unfold parT; split <;> simp
        simp only [List.map_cons, List.sum_cons, nodesL] at hr ⊢
        have : (nodes k + nodesL r) * 10000000 = nodes k * 10000000 + nodesL r * 10000000 := Nat.add_mul _ _ _
        omega
    have h9 := hsum ks fun k hk => hk
    have h8 := Nat.le_trans (join_sum (sepT o) (ks.map parT)) h9
    have hn : nodes (.mk o 0 [] 0 0 ks) = 1 + nodesL ks := rfl
    rw [hn]
    rw [if_neg (by omega), if_neg (by omega), if_neg (by omega), if_neg (by omega)]
    omega
end Qr
end Go.Proofs.YtkahplbjbidemaaGreatDoor

/- A search as text: what the program's show returns. -/
namespace Go.Proofs.YtkahplbjbidemaaGreatDoor
open Go.RowKit
set_option maxRecDepth 100000

set_option maxHeartbeats 1600000 in
theorem shows_y (ya yb : Int) (h1 : 1 ≤ ya ∧ ya ≤ 2199) (h2 : 1 ≤ yb ∧ yb ≤ 2199) (sa ka : Option Addr) (sc kc : Nat) (w : World) (hG : G w) :
    Calls Tryz.prog 33 #[.agg #[.int .i64 4, .int .i64 0, .slice sa 0 sc, .int .i64 ya, .int .i64 yb, .slice ka 0 kc]] w fun e w' => e = .returned (.string ⟨(Qr.text (.mk 4 0 [] ya yb [])).toArray⟩) ∧ Below w.heap.size w w' := by
  have e1 := Lib.itoa_length_le ya (by omega) (by omega)
  have e2 := Lib.itoa_length_le yb (by omega) (by omega)
  obtain ⟨W, hW⟩ : ∃ W, w.alloc (.cells #[.int .i64 4, .int .i64 0, .slice sa 0 sc, .int .i64 ya, .int .i64 yb, .slice ka 0 kc] 25) = W := ⟨_, rfl⟩
  have hB : Below w.heap.size w W := by rw [← hW]; exact Tx.newb _ _
  have c0 : W.cell? ⟨w.heap.size, 0, none⟩ = some (.int .i64 4) := by rw [← hW]; simp
  have c1 : W.cell? ⟨w.heap.size, 1, none⟩ = some (.int .i64 0) := by rw [← hW]; simp
  have c3 : W.cell? ⟨w.heap.size, 3, none⟩ = some (.int .i64 ya) := by rw [← hW]; simp
  have c4 : W.cell? ⟨w.heap.size, 4, none⟩ = some (.int .i64 yb) := by rw [← hW]; simp
  have hGW := hG.below hB
  obtain ⟨a1, a2, a3, -⟩ := Tx.adds_ok Tryz.prog [⟨(Lib.itoa ya).toArray⟩, ⟨#[45]⟩, ⟨(Lib.itoa yb).toArray⟩] ⟨#[121, 101, 97, 114, 58]⟩ (by simp only [List.map_cons, List.map_nil, List.sum_cons, List.sum_nil, Tx.size_mk]; simp; omega)
  go_enter Tryz.func33, Tryz.ntmps33
  go_wp2
  clear hW
  go_region_held3 (fun w' => Below W.heap.size W w' ∧ w'.cell? ⟨w.heap.size, 3, none⟩ = some (.int .i64 ya) ∧ w'.cell? ⟨w.heap.size, 4, none⟩ = some (.int .i64 yb))
    (first
      | exact ⟨(Below.refl _ _).drew, c3, c4⟩
      | (go_split_ands; exact ⟨Tx.step (by assumption) hbc, cell_later hbc (by assumption), cell_later hbc (by assumption)⟩))
    (first
      | (go_split_ands; go_at_call 59; refine (Itoa_c ya _ (by omega) (by omega) (hGW.below (by assumption))).mono ?_; rintro e w1 ⟨rfl, hbc⟩)
      | (go_split_ands; go_at_call 59; refine (Itoa_c yb _ (by omega) (by omega) (hGW.below (by assumption))).mono ?_; rintro e w1 ⟨rfl, hbc⟩))
  clear a1 a2 a3
  go_split_ands
  go_wp2
  go_ret
  exact ⟨Tx.rets (by rw [Qr.text_eq]; simp [Tx.bcat]), hB.trans ((by assumption : Below W.heap.size W _).mono hB.size)⟩
end Go.Proofs.YtkahplbjbidemaaGreatDoor

/- A search as text: what the program's show returns for a search that combines others. -/
namespace Go.Proofs.YtkahplbjbidemaaGreatDoor
open Go.RowKit
set_option maxRecDepth 100000

namespace Qr
abbrev bmk (l : List UInt8) : ByteArray := ⟨l.toArray⟩
def partL (ks : List Qy) : List ByteArray := ks.map fun k => bmk (parT k)
theorem partL_len (ks : List Qy) : (partL ks).length = ks.length := by simp [partL]
theorem partL_bys (ks : List Qy) : (partL ks).map (·.data.toList) = ks.map parT := by
  unfold partL
  rw [List.map_map]
  rfl
theorem partL_take {ks : List Qy} {k : Nat} {x : Qy} (h : ks[k]? = some x) : partL (ks.take (k + 1)) = partL (ks.take k) ++ [bmk (parT x)] := by
  unfold partL
  rw [take_snoc h, List.map_append]
  rfl
theorem text_kids {o a b : Int} {ws : List ByteArray} {f : Int} {ks : List Qy} (h : o = 5 ∨ o = 6 ∨ o = 7) : text (.mk o f ws a b ks) = Lib.join (ks.map parT) (sepT o) := by
  rw [text_eq, if_neg (by omega), if_neg (by omega), if_neg (by omega), if_neg (by omega)]
theorem Sh.kid {o f a b : Int} {ws : List ByteArray} {ks : List Qy} (h : Sh (.mk o f ws a b ks)) : ∀ k ∈ ks, Sh k := by
  cases h with
  | term _ _ _ => intro k hk; simp at hk
  | years _ _ => intro k hk; simp at hk
  | kids _ _ h3 => exact h3
end Qr

set_option maxHeartbeats 3200000 in
theorem shows_k (B : Nat) (op : Int) (ho : op = 5 ∨ op = 6 ∨ op = 7) (ks : List Qr.Qy) (h8 : ks.length ≤ 8) (sa ka : Option Addr) (sc kc : Nat) (w : World) (hK : Qr.KA B w ka kc ks) (hG : G w) (hn : Qr.nodesL ks ≤ 1000000) (hsh : ∀ k ∈ ks, Qr.Sh k) (hz : ∀ k ∈ ks, Qr.Wz 1000000 k)
    (ih : ∀ k ∈ ks, ∀ (cs : List Value) (w : World), Qr.QC B w k cs → G w → Calls Tryz.prog 33 #[.agg cs.toArray] w fun e w' => e = .returned (.string ⟨(Qr.text k).toArray⟩) ∧ Below w.heap.size w w') (hl : (Qr.text (.mk op 0 [] 0 0 ks)).length ≤ 100000000000000) :
    Calls Tryz.prog 33 #[.agg #[.int .i64 op, .int .i64 0, .slice sa 0 sc, .int .i64 0, .int .i64 0, .slice ka ks.length kc]] w fun e w' => e = .returned (.string ⟨(Qr.text (.mk op 0 [] 0 0 ks)).toArray⟩) ∧ Below w.heap.size w w' := by
  obtain ⟨i0, hi0, hz0, hz1, hz2⟩ := info_parts info_str
  have IH := Lib.hid ih; clear ih
  obtain ⟨W, hW⟩ : ∃ W, w.alloc (.cells #[.int .i64 op, .int .i64 0, .slice sa 0 sc, .int .i64 0, .int .i64 0, .slice ka ks.length kc] 25) = W := ⟨_, rfl⟩
  have hB : Below w.heap.size w W := by rw [← hW]; exact Tx.newb _ _
  have c0 : W.cell? ⟨w.heap.size, 0, none⟩ = some (.int .i64 op) := by rw [← hW]; simp
  have c1 : W.cell? ⟨w.heap.size, 1, none⟩ = some (.int .i64 0) := by rw [← hW]; simp
  have c5 : W.cell? ⟨w.heap.size, 5, none⟩ = some (.slice ka ks.length kc) := by rw [← hW]; simp
  have hS := hK.below hB
  have hGW := hG.below hB
  rw [Qr.text_kids ho] at hl ⊢
  obtain ⟨sep, hsep⟩ : ∃ sep, Qr.sepT op = sep := ⟨_, rfl⟩
  rw [hsep] at hl ⊢
  rw [← Qr.partL_bys] at hl ⊢
  have HL := Lib.hid hl; clear hl
  have HSH := Lib.hid hsh; clear hsh
  have HZ := Lib.hid hz; clear hz
  clear hK
  rcases ho with rfl | rfl | rfl
  all_goals
    obtain rfl : _ = sep := hsep
    go_enter Tryz.func33, Tryz.ntmps33
    go_wp2
    clear hW c0 c1 c5
    go_loopw [5, 7, 8, 64] (fun v _ _ i wr => ∃ (k : Nat) (L : List ByteArray), k ≤ ks.length ∧ i = .int .i64 k ∧ Hid (L = Qr.partL (ks.take k)) ∧ L.length ≤ k ∧ wr.ownsRow W.heap.size 9 1 v L.length (L.map Value.string) ∧ Below W.heap.size W wr) (fun _ _ _ i _ => ks.length - (intOf i).toNat)
    case atStart => exact ⟨0, [], Nat.zero_le _, rfl, Lib.hid rfl, Nat.le_refl _, World.ownsRow_nil _ _ _ _, Below.refl _ _⟩
    case round =>
      obtain ⟨k, L, hk, rfl, hL, hLk, hown, hb⟩ := hrel
      by_cases hlt : k < ks.length
      · obtain ⟨x, hx⟩ : ∃ x, ks[k]? = some x := ⟨_, List.getElem?_eq_getElem hlt⟩
        obtain ⟨b, o, sa2, sc2, ka2, kc2, rfl, hbl, d0, d1, d2, d3, d4, d5, hq⟩ := (hS.below hb).get hx
        have hmem := List.mem_of_getElem? hx
        have htk := Qr.partL_take hx
        rw [← hL.out] at htk
        have hnk := Qr.nodes_kid hmem
        have htl := Qr.text_le x (HSH.out x hmem) (HZ.out x hmem)
        have hqn := hq.later (Tx.newb wr (.cells #[.int .i64 x.op, .int .i64 x.fld, .slice sa2 x.ws.length sc2, .int .i64 x.a, .int .i64 x.b, .slice ka2 x.ks.length kc2] 25))
        have hbw := hb.alloc hb.size (.cells #[.int .i64 x.op, .int .i64 x.fld, .slice sa2 x.ws.length sc2, .int .i64 x.a, .int .i64 x.b, .slice ka2 x.ks.length kc2] 25)
        have how1 := hown.alloc (.cells #[.int .i64 x.op, .int .i64 x.fld, .slice sa2 x.ws.length sc2, .int .i64 x.a, .int .i64 x.b, .slice ka2 x.ks.length kc2] 25)
        have hbs := hb.size
        obtain ⟨T, hT⟩ : ∃ T, Qr.text x = T := ⟨_, rfl⟩
        rw [hT] at htl
        have hnx : Qr.nodes x * 10000000 ≤ 1000000 * 10000000 := Nat.mul_le_mul_right _ (by omega)
        have hTL : T.length ≤ 10000000000000 := by omega
        obtain ⟨xo, hxo⟩ : ∃ xo, x.op = xo := ⟨_, rfl⟩
        have hpt : Qr.parT x = if 5 ≤ xo then [40] ++ T ++ [41] else T := by unfold Qr.parT; rw [hT, hxo]
        rw [hpt] at htk
        have HM := Lib.hid hmem; clear hmem
        have HX := Lib.hid hqn; clear hqn hq
        have HT := Lib.hid hT; clear hT
        rw [hxo] at d0 hbw how1 HX
        clear htl hnx hx hnk hpt hxo
        have hc0 : (wr.alloc (.cells #[.int .i64 xo, .int .i64 x.fld, .slice sa2 x.ws.length sc2, .int .i64 x.a, .int .i64 x.b, .slice ka2 x.ks.length kc2] 25)).cell? ⟨wr.heap.size, 0, none⟩ = some (.int .i64 xo) := by simp
        have HC := Lib.hid hc0; clear hc0
        obtain ⟨a1, a2, -⟩ := Tx.adds_ok Tryz.prog [⟨T.toArray⟩, ⟨#[41]⟩] ⟨#[40]⟩ (by simp only [List.map_cons, List.map_nil, List.sum_cons, List.sum_nil, Tx.size_mk]; simp; omega)
        by_cases h5 : 5 ≤ xo
        · rw [if_pos h5] at htk
          have HTK := Lib.hid htk; clear htk
          go_wp2_with (first
            | (at_builtin; go_must (refine wpList_append_own _ rfl _ _ 22 rfl W.heap.size 9 i0 (.string ⟨#[]⟩) 1 16 Tryz.underlying22 hi0 hz0 hz1 hz2 rfl (by decide) _ L.length _ rfl ((own_below how1 hb2).alloc _) ⟨_, 0, none⟩ 1 1 [.string (⟨#[40]⟩ ++ ⟨T.toArray⟩ ++ ⟨#[41]⟩)] rfl rfl (Tx.cell_one_at _ _ (by simp) _ _) (by simp [Value.oneCell']) (by unfold maxLen; omega) (by omega) (by have := hb2.size; simp at this ⊢; omega) ?_); intro v' w5 hown5 hg5 hnil5)
            | (go_at_call 33; refine (IH.out x HM.out _ _ HX.out ((hGW.below hb).below (Tx.newb _ _))).mono ?_; rintro e w2 ⟨rfl, hb2⟩; rw [HT.out]; have f0 := cell_later hb2 HC.out))
          have hbz := Tx.step hbw hb2
          have hb5 : Below W.heap.size W w5 := (hbz.alloc hbz.size _).grown hg5 (by have := hbz.size; simp; omega) (fun j hj => (hown.lt j hj).1)
          go_roundw
          case rel => exact ⟨k + 1, L ++ [Qr.bmk ([40] ++ T ++ [41])], by omega, by go_num, Lib.hid HTK.out.symm, by simp; omega, by simpa [Tx.bcat, Qr.bmk] using hown5, hb5⟩
          case measure => simp [intOf]; omega
        · rw [if_neg h5] at htk
          have HTK := Lib.hid htk; clear htk
          go_wp2_with (first
            | (at_builtin; go_must (refine wpList_append_own _ rfl _ _ 22 rfl W.heap.size 9 i0 (.string ⟨#[]⟩) 1 16 Tryz.underlying22 hi0 hz0 hz1 hz2 rfl (by decide) _ L.length _ rfl ((own_below how1 hb2).alloc _) ⟨_, 0, none⟩ 1 1 [.string ⟨T.toArray⟩] rfl rfl (Tx.cell_one_at _ _ (by simp) _ _) (by simp [Value.oneCell']) (by unfold maxLen; omega) (by omega) (by have := hb2.size; simp at this ⊢; omega) ?_); intro v' w5 hown5 hg5 hnil5)
            | (go_at_call 33; refine (IH.out x HM.out _ _ HX.out ((hGW.below hb).below (Tx.newb _ _))).mono ?_; rintro e w2 ⟨rfl, hb2⟩; rw [HT.out]; have f0 := cell_later hb2 HC.out))
          have hbz := Tx.step hbw hb2
          have hb5 : Below W.heap.size W w5 := (hbz.alloc hbz.size _).grown hg5 (by have := hbz.size; simp; omega) (fun j hj => (hown.lt j hj).1)
          go_roundw
          case rel => exact ⟨k + 1, L ++ [Qr.bmk T], by omega, by go_num, Lib.hid HTK.out.symm, by simp; omega, by simpa [Tx.bcat, Qr.bmk] using hown5, hb5⟩
          case measure => simp [intOf]; omega
      · obtain rfl : k = ks.length := by omega
        have hL2 := hL.out
        rw [List.take_length] at hL2
        subst hL2
        have hpl := Qr.partL_len ks
        have HPL := Lib.hid hpl; clear hpl
        go_wp2_with (go_at_call 58; refine (Join_c _ (Qr.partL ks) ⟨_⟩ _ (SL.of_own hown rfl) (Nat.le_trans HL.out (by omega)) (by rw [HPL.out]; omega)).mono ?_; rintro e w9 ⟨rfl, hb9⟩)
        go_ret
        exact ⟨rfl, hB.trans ((Tx.step hb hb9).mono hB.size)⟩
end Go.Proofs.YtkahplbjbidemaaGreatDoor

/- A search as text: what the program's show and Print return. -/
namespace Go.Proofs.YtkahplbjbidemaaGreatDoor
open Go.RowKit
set_option maxRecDepth 100000

namespace Qr
/-- Print's answer. -/
def printT (q : Qy) : List UInt8 := if rightE q = 0 then text q else []
theorem sl_at {w : World} {sa : Option Addr} {sc : Nat} {ws : List ByteArray} (h : SL w (.slice sa ws.length sc) ws) (hn : 1 ≤ ws.length) : ∃ b p, sa = some ⟨b, p, none⟩ ∧ ∀ (j : Nat) x, ws[j]? = some x → w.cell? ⟨b, p + j, none⟩ = some (.string x) := by
  rcases h with ⟨h1, _⟩ | ⟨b, o, c, h1, h2, h3, h4, h5⟩
  · rw [h1] at hn; simp at hn
  · injection h1 with h1 _ _
    exact ⟨b, o, h1, h5⟩
theorem nms_get {k : Nat} (h : k < 5) : ∃ N, nms[k]? = some N := ⟨_, List.getElem?_eq_getElem (by simpa [nms] using h)⟩
end Qr

theorem show_c (B : Nat) : ∀ (q : Qr.Qy) (cs : List Value) (w : World), Qr.QC B w q cs → Qr.Sh q → Qr.Wz 1000000 q → Qr.nodes q ≤ 1000000 → G w →
    Calls Tryz.prog 33 #[.agg cs.toArray] w fun e w' => e = .returned (.string ⟨(Qr.text q).toArray⟩) ∧ Below w.heap.size w w' := by
  refine Qr.Qy.ind ?_
  intro op fl ws ya yb ks ih cs w h hs hz hn hG
  obtain ⟨sa, sc, ka, kc, rfl, hS, _, hK⟩ := h.kids
  dsimp only [Qr.Qy.op, Qr.Qy.fld, Qr.Qy.a, Qr.Qy.b, Qr.Qy.ks, Qr.Qy.ws] at hK hS ⊢
  have hl := Qr.text_le _ hs hz
  cases hs with
  | term h1 h2 h3 =>
    obtain ⟨b, p, rfl, hat⟩ := Qr.sl_at hS h3.1
    obtain ⟨x, hx⟩ : ∃ x, ws[0]? = some x := ⟨_, List.getElem?_eq_getElem (by omega)⟩
    obtain ⟨k, rfl⟩ : ∃ k : Nat, fl = (k : Int) := ⟨fl.toNat, by omega⟩
    obtain ⟨N, hN⟩ := Qr.nms_get (k := k) (by omega)
    have hxe : x = ⟨x.data.toList.toArray⟩ := by simp
    exact shows_t op h1 k N hN ws x.data.toList (by rw [← hxe]; exact hx) h3.2 hz.ws b p sc ka kc w hS (by rw [← hxe]; exact hat 0 x hx)
  | years h1 h2 => exact shows_y ya yb h1 h2 sa ka sc kc w hG
  | kids h1 h2 h3 =>
    have hnn : Qr.nodes (.mk op 0 [] 0 0 ks) = 1 + Qr.nodesL ks := rfl
    exact shows_k B op h1 ks h2 sa ka sc kc w hK hG (by omega) h3 hz.ks (fun k hk cs w hq hg => ih k hk cs w hq (h3 k hk) (hz.ks k hk) (by have := Qr.nodes_kid hk; omega) hg) (by omega)

set_option maxHeartbeats 1600000 in
theorem Print_c (B : Nat) (q : Qr.Qy) (cs : List Value) (w : World) (h : Qr.QC B w q cs) (hz : Qr.Wz 1000000 q) (hn : Qr.nodes q ≤ 1000000) (hG : G w) :
    Calls Tryz.prog 17 #[.agg cs.toArray] w fun e w' => e = .returned (.tuple #[.string ⟨(Qr.printT q).toArray⟩, .int .i64 (Qr.rightE q)]) ∧ Below w.heap.size w w' := by
  obtain ⟨sa, sc, ka, kc, e0, _, _, _⟩ := h.kids
  obtain ⟨op, hop⟩ : ∃ op, q.op = op := ⟨_, rfl⟩
  obtain ⟨fl, hfl⟩ : ∃ fl, q.fld = fl := ⟨_, rfl⟩
  obtain ⟨ya, hya⟩ : ∃ ya, q.a = ya := ⟨_, rfl⟩
  obtain ⟨yb, hyb⟩ : ∃ yb, q.b = yb := ⟨_, rfl⟩
  obtain ⟨ws, hws⟩ : ∃ ws, q.ws = ws := ⟨_, rfl⟩
  obtain ⟨ks, hks⟩ : ∃ ks, q.ks = ks := ⟨_, rfl⟩
  rw [hop, hfl, hya, hyb, hws, hks] at e0
  clear hop hfl hya hyb hws hks
  subst e0
  obtain ⟨W, hW⟩ : ∃ W, w.alloc (.cells #[.int .i64 op, .int .i64 fl, .slice sa ws.length sc, .int .i64 ya, .int .i64 yb, .slice ka ks.length kc] 25) = W := ⟨_, rfl⟩
  have hB : Below w.heap.size w W := by rw [← hW]; exact Tx.newb _ _
  have c0 : W.cell? ⟨w.heap.size, 0, none⟩ = some (.int .i64 op) := by rw [← hW]; simp
  have c1 : W.cell? ⟨w.heap.size, 1, none⟩ = some (.int .i64 fl) := by rw [← hW]; simp
  have c2 : W.cell? ⟨w.heap.size, 2, none⟩ = some (.slice sa ws.length sc) := by rw [← hW]; simp
  have c3 : W.cell? ⟨w.heap.size, 3, none⟩ = some (.int .i64 ya) := by rw [← hW]; simp
  have c4 : W.cell? ⟨w.heap.size, 4, none⟩ = some (.int .i64 yb) := by rw [← hW]; simp
  have c5 : W.cell? ⟨w.heap.size, 5, none⟩ = some (.slice ka ks.length kc) := by rw [← hW]; simp
  have HQ := Lib.hid (h.later hB); clear h
  have HZ := Lib.hid hz; clear hz
  have hGW := hG.below hB
  obtain ⟨r, hr⟩ : ∃ r, Qr.rightE q = r := ⟨_, rfl⟩
  have HR := Lib.hid hr
  have hsh : r = 0 → Qr.Sh q := by
    intro h0
    rw [h0] at hr
    unfold Qr.rightE at hr
    split at hr
    · simp at hr
    · exact Qr.sh_of q hr
  have HSH := Lib.hid hsh; clear hsh
  have hPT : Qr.printT q = if r = 0 then Qr.text q else [] := by unfold Qr.printT; rw [hr]
  rw [hPT, hr]
  clear hr hPT
  by_cases h0 : r = 0
  · subst h0
    rw [if_pos rfl]
    have HS0 := Lib.hid (HSH.out rfl); clear HSH
    go_enter Tryz.func17, Tryz.ntmps17
    go_wp2_with (first
      | (go_at_call 33; refine (show_c B q _ _ (HQ.out.later hb1) HS0.out HZ.out hn (hGW.below hb1)).mono ?_; rintro e w2 ⟨rfl, hb2⟩)
      | (go_at_call 10; refine (Right_c B q _ W HQ.out HZ.out (by omega) hGW).mono ?_; rintro e w1 ⟨rfl, hb1⟩; rw [HR.out]; have e0 := cell_later hb1 c0; have e1 := cell_later hb1 c1; have e2 := cell_later hb1 c2; have e3 := cell_later hb1 c3; have e4 := cell_later hb1 c4; have e5 := cell_later hb1 c5))
    refine bodyPost_ret (v := .tuple #[.string ⟨(Qr.text q).toArray⟩, .int .i64 0]) (by simp [results, Tryz.results17, go_sem]) rfl ?_
    exact ⟨rfl, hB.trans ((Tx.step hb1 hb2).mono hB.size)⟩
  · rw [if_neg h0]
    have hb : (r != 0) = true := by simpa using h0
    clear h0
    go_enter Tryz.func17, Tryz.ntmps17
    go_wp2_with (go_at_call 10; refine (Right_c B q _ W HQ.out HZ.out (by omega) hGW).mono ?_; rintro e w1 ⟨rfl, hb1⟩; rw [HR.out])
    refine bodyPost_ret (v := .tuple #[.string ⟨([] : List UInt8).toArray⟩, .int .i64 r]) (by simp [results, Tryz.results17, go_sem]) rfl ?_
    exact ⟨rfl, hB.trans (hb1.mono hB.size)⟩
end Go.Proofs.YtkahplbjbidemaaGreatDoor
