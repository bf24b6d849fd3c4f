/- Texts put together by the reference; the text of a term with its field: what the calls return. -/
import Derived.Test.YtkahplbjbidemaaGreatDoorQsX
import Derived.Test.YtkahplbjbidemaaGreatDoorQrX
import Derived.StillTailTactics
import Derived.Deep.RegionHeld3
namespace Go.Proofs.YtkahplbjbidemaaGreatDoor
open Go.RowKit
set_option maxRecDepth 100000

namespace Jn
open Go.Lib
abbrev By := List UInt8
theorem joinTail_app (sep : By) (a b : List By) : joinTail sep (a ++ b) = joinTail sep a ++ joinTail sep b := by simp [joinTail]
theorem join_snoc (l : List By) (x sep : By) : join (l ++ [x]) sep = if l = [] then x else join l sep ++ sep ++ x := by
  cases l with
  | nil => simp [join_cons, joinTail]
  | cons y r =>
    rw [List.cons_append, join_cons, join_cons, joinTail_app, if_neg (by simp)]
    simp [joinTail]
theorem join_app_le (a b : List By) (sep : By) : (join a sep).length ≤ (join (a ++ b) sep).length := by
  cases a with
  | nil => simp [join_nil]
  | cons y r =>
    rw [List.cons_append, join_cons, join_cons, joinTail_app]
    simp only [List.length_append]
    omega
theorem join_take_le (l : List By) (sep : By) (k : Nat) : (join (l.take k) sep).length ≤ (join l sep).length := by
  have := join_app_le (l.take k) (l.drop k) sep
  rw [List.take_append_drop] at this
  exact this
theorem map_take {α : Type} {f : α → By} {xs : List α} {k : Nat} {x : α} (h : xs[k]? = some x) : (xs.take (k + 1)).map f = (xs.take k).map f ++ [f x] := by
  rw [List.take_add_one, h]
  simp
theorem take_nil_iff {α : Type} {xs : List α} {k : Nat} (h : k < xs.length) : xs.take k = [] ↔ k = 0 := by
  cases xs with
  | nil => simp at h
  | cons x r => cases k <;> simp
/-- One more part. -/
theorem round {α : Type} {f : α → By} {xs : List α} {k : Nat} {x : α} {sep O : By} {M : Nat} (h : xs[k]? = some x) (hO : O = join ((xs.take k).map f) sep) (hM : (join (xs.map f) sep).length ≤ M) :
    (k = 0 → O = [] ∧ f x = join ((xs.take (k + 1)).map f) sep ∧ (f x).length ≤ M) ∧ (k ≠ 0 → O ++ sep ++ f x = join ((xs.take (k + 1)).map f) sep ∧ O.length + sep.length + (f x).length ≤ M) := by
  have hlt := (List.getElem?_eq_some_iff.1 h).1
  have hle : (join ((xs.take (k + 1)).map f) sep).length ≤ M := by
    rw [List.map_take]
    exact Nat.le_trans (join_take_le _ _ _) hM
  have hj := join_snoc ((xs.take k).map f) (f x) sep
  rw [← map_take h] at hj
  refine ⟨fun h0 => ?_, fun h0 => ?_⟩
  · subst h0
    rw [if_pos (by rfl)] at hj
    exact ⟨by rw [hO]; rfl, hj.symm, by rw [← hj]; exact hle⟩
  · rw [if_neg (fun e => h0 ((take_nil_iff hlt).1 (List.map_eq_nil_iff.1 e)))] at hj
    rw [hj, ← hO] at hle
    rw [← hO] at hj
    exact ⟨hj.symm, by simpa [Nat.add_assoc] using hle⟩
end Jn

set_option maxHeartbeats 1600000 in
theorem r08_Joined_c (xs : List ByteArray) (a : Option Addr) (c : Nat) (sep : ByteArray) (w : World) (h : SLA w a c xs) (hlen : (Lib.join (xs.map (·.data.toList)) sep.data.toList).length ≤ 1000000000) :
    Calls Tryz.prog 61 #[.slice a xs.length c, .string sep] w fun e w' => e = .returned (.string ⟨(Lib.join (xs.map (·.data.toList)) sep.data.toList).toArray⟩) ∧ w' = w := by
  have hcap := h.cap
  have hmx : maxLen = 9223372036854775807 := rfl
  have hmax := h.max
  have HLEN := Lib.hid hlen; clear hlen
  go_enter Tryz.func61, Tryz.ntmps61
  go_wp2
  go_loop [5, 6] (fun v i => ∃ (k : Nat) (O : List UInt8), k ≤ xs.length ∧ i = .int .i64 k ∧ v = .string ⟨O.toArray⟩ ∧ Hid (O = Lib.join ((xs.take k).map (·.data.toList)) sep.data.toList)) (fun _ i => xs.length - (intOf i).toNat)
  case atStart => exact ⟨0, [], Nat.zero_le _, rfl, rfl, Lib.hid rfl⟩
  case round =>
    obtain ⟨k, O, hk, rfl, rfl, hO⟩ := hrel
    by_cases hlt : k < xs.length
    · obtain ⟨x, hx⟩ : ∃ x, xs[k]? = some x := ⟨_, List.getElem?_eq_getElem hlt⟩
      obtain ⟨b, o, rfl, hbl, c0⟩ := h.get hx
      obtain ⟨j0, j1⟩ := Jn.round (f := fun (b : ByteArray) => b.data.toList) hx hO.out HLEN.out
      by_cases h0 : k = 0
      · obtain ⟨rfl, j2, j3⟩ := j0 h0
        rw [h0] at c0
        rw [Nat.add_zero] at c0
        have hxs : x.size ≤ 1000000000 := by rw [Lib.size_eq]; exact j3
        rw [h0] at j2
        subst h0
        have HJ := Lib.hid j2; clear j2 j3 j1 j0 hx hO
        obtain ⟨a1, -⟩ := Tx.adds_ok Tryz.prog [x] (⟨#[]⟩ : ByteArray) (by simp only [List.map_cons, List.map_nil, List.sum_cons, List.sum_nil]; rw [show (⟨#[]⟩ : ByteArray).size = 0 from rfl]; omega)
        go_wp2
        go_round
        case rel => exact ⟨1, x.data.toList, by omega, by go_num, by simp [Tx.bcat], HJ⟩
        case measure => simp [intOf]; omega
      · obtain ⟨j2, j3⟩ := j1 h0
        have hjl2 : O.length + sep.size + x.size ≤ 1000000000 := by rw [Lib.size_eq sep, Lib.size_eq x]; exact j3
        have HJ := Lib.hid j2; clear j2 j3 j1 j0 hx hO
        have hkp : 0 < k := by omega
        obtain ⟨a1, a2, -⟩ := Tx.adds_ok Tryz.prog [sep, x] (⟨O.toArray⟩ : ByteArray) (by simp only [List.map_cons, List.map_nil, List.sum_cons, List.sum_nil, Tx.size_mk]; omega)
        go_wp2
        go_round
        case rel => exact ⟨k + 1, O ++ sep.data.toList ++ x.data.toList, by omega, by go_num, by simp [Tx.bcat], HJ⟩
        case measure => simp [intOf]; omega
    · obtain rfl : k = xs.length := by omega
      have hO2 := hO.out
      rw [List.take_length] at hO2
      have HO := Lib.hid hO2; clear hO2 hO
      go_wp2
      go_ret
      exact ⟨Tx.rets (by rw [HO.out]), rfl⟩

set_option maxHeartbeats 1600000 in
theorem r21_fielded_c (f : Int) (hf : 0 ≤ f ∧ f ≤ 4) (s : ByteArray) (w : World) (hs : s.size ≤ 1000000000) :
    Calls Tryz.prog 60 #[.int .i64 f, .string s] w fun e w' => e = .returned (.string ⟨(Qr.fieldT f ++ s.data.toList).toArray⟩) ∧ w' = w := by
  obtain ⟨a1, -⟩ := Tx.adds_ok Tryz.prog [s] (⟨#[116, 105, 58]⟩ : ByteArray) (by simp only [List.map_cons, List.map_nil, List.sum_cons, List.sum_nil]; rw [show (⟨#[116, 105, 58]⟩ : ByteArray).size = 3 from rfl]; omega)
  obtain ⟨a2, -⟩ := Tx.adds_ok Tryz.prog [s] (⟨#[97, 117, 58]⟩ : ByteArray) (by simp only [List.map_cons, List.map_nil, List.sum_cons, List.sum_nil]; rw [show (⟨#[97, 117, 58]⟩ : ByteArray).size = 3 from rfl]; omega)
  obtain ⟨a3, -⟩ := Tx.adds_ok Tryz.prog [s] (⟨#[115, 117, 58]⟩ : ByteArray) (by simp only [List.map_cons, List.map_nil, List.sum_cons, List.sum_nil]; rw [show (⟨#[115, 117, 58]⟩ : ByteArray).size = 3 from rfl]; omega)
  obtain ⟨a4, -⟩ := Tx.adds_ok Tryz.prog [s] (⟨#[110, 117, 58]⟩ : ByteArray) (by simp only [List.map_cons, List.map_nil, List.sum_cons, List.sum_nil]; rw [show (⟨#[110, 117, 58]⟩ : ByteArray).size = 3 from rfl]; omega)
  have e0 : (⟨(Qr.fieldT 0 ++ s.data.toList).toArray⟩ : ByteArray) = s := by simp [Qr.fieldT]
  have e1 : (⟨(Qr.fieldT 1 ++ s.data.toList).toArray⟩ : ByteArray) = ⟨#[116, 105, 58]⟩ ++ s := by rw [Tx.bcat]; rfl
  have e2 : (⟨(Qr.fieldT 2 ++ s.data.toList).toArray⟩ : ByteArray) = ⟨#[97, 117, 58]⟩ ++ s := by rw [Tx.bcat]; rfl
  have e3 : (⟨(Qr.fieldT 3 ++ s.data.toList).toArray⟩ : ByteArray) = ⟨#[115, 117, 58]⟩ ++ s := by rw [Tx.bcat]; rfl
  have e4 : (⟨(Qr.fieldT 4 ++ s.data.toList).toArray⟩ : ByteArray) = ⟨#[110, 117, 58]⟩ ++ s := by rw [Tx.bcat]; rfl
  have E0 := Lib.hid e0; have E1 := Lib.hid e1; have E2 := Lib.hid e2; have E3 := Lib.hid e3; have E4 := Lib.hid e4
  clear e0 e1 e2 e3 e4
  rcases (show f = 0 ∨ f = 1 ∨ f = 2 ∨ f = 3 ∨ f = 4 by omega) with rfl | rfl | rfl | rfl | rfl
  all_goals
    go_enter Tryz.func60, Tryz.ntmps60
    go_wp2
    go_ret
    first
      | exact ⟨Tx.rets E0.out.symm, rfl⟩
      | exact ⟨Tx.rets E1.out.symm, rfl⟩
      | exact ⟨Tx.rets E2.out.symm, rfl⟩
      | exact ⟨Tx.rets E3.out.symm, rfl⟩
      | exact ⟨Tx.rets E4.out.symm, rfl⟩
end Go.Proofs.YtkahplbjbidemaaGreatDoor

/- The reference's text of a term: what the call returns. -/
namespace Go.Proofs.YtkahplbjbidemaaGreatDoor
open Go.RowKit
set_option maxRecDepth 100000

set_option maxHeartbeats 3200000 in
theorem r21_text_t (o : Int) (ho : o = 1 ∨ o = 2 ∨ o = 3) (f : Int) (hf : 0 ≤ f ∧ f ≤ 4) (ws : List ByteArray) (X : List UInt8) (hx : ws[0]? = some ⟨X.toArray⟩) (h8 : ws.length ≤ 8) (hz : ∀ y ∈ ws, y.size ≤ 1000000) (b p : Nat) (sc : Nat) (ka : Option Addr) (kc : Nat) (w : World) (hS : SLA w (some ⟨b, p, none⟩) sc ws) (hcx : w.cell? ⟨b, p, none⟩ = some (.string ⟨X.toArray⟩)) :
    Calls Tryz.prog 34 #[.agg #[.int .i64 o, .int .i64 f, .slice (some ⟨b, p, none⟩) ws.length sc, .int .i64 0, .int .i64 0, .slice ka 0 kc]] w fun e w' => e = .returned (.string ⟨(Qr.text (.mk o f ws 0 0 [])).toArray⟩) ∧ Below w.heap.size w w' := by
  have hxs := hz ⟨X.toArray⟩ (List.mem_of_getElem? hx)
  have hwl : 1 ≤ ws.length := by have := (List.getElem?_eq_some_iff.1 hx).1; omega
  have hjl : (Lib.join (ws.map (·.data.toList)) [32]).length ≤ 9000000 := by
    have := Rc.join_le (ws.map (·.data.toList)) [32] 1000000 (fun y hy => by
      obtain ⟨z, hz', rfl⟩ := List.mem_map.1 hy
      have := hz z hz'
      rw [← Lib.size_eq]; exact this)
    rw [List.length_map] at this
    have h4 : ws.length * (1000000 + ([32] : List UInt8).length) ≤ 8 * (1000000 + 1) := Nat.mul_le_mul h8 (by simp)
    omega
  obtain ⟨J, hJ⟩ : ∃ J, Lib.join (ws.map (·.data.toList)) [32] = J := ⟨_, rfl⟩
  rw [hJ] at hjl
  have hT : Qr.text (.mk o f ws 0 0 []) = if o = 1 then Qr.fieldT f ++ X else if o = 2 then Qr.fieldT f ++ (X ++ [42]) else Qr.fieldT f ++ ([34] ++ J ++ [34]) := by
    rw [Qr.text_eq, Qr.bys_head hx, ← hJ]
    rcases ho with rfl | rfl | rfl <;> rfl
  have HT := Lib.hid hT; clear hT
  have HJ := Lib.hid hJ; clear hJ
  have HF := Lib.hid hf; clear hf
  clear hx
  obtain ⟨W, hW⟩ : ∃ W, w.alloc (.cells #[.int .i64 o, .int .i64 f, .slice (some ⟨b, p, none⟩) ws.length sc, .int .i64 0, .int .i64 0, .slice ka 0 kc] 25) = W := ⟨_, rfl⟩
  have hB : Below w.heap.size w W := by rw [← hW]; exact Tx.newb _ _
  have c0 : W.cell? ⟨w.heap.size, 0, none⟩ = some (.int .i64 o) := by rw [← hW]; simp
  have c1 : W.cell? ⟨w.heap.size, 1, none⟩ = some (.int .i64 f) := by rw [← hW]; simp
  have c2 : W.cell? ⟨w.heap.size, 2, none⟩ = some (.slice (some ⟨b, p, none⟩) ws.length sc) := by rw [← hW]; simp
  have d0 := cell_later hB hcx
  have HS := Lib.hid (hS.below hB); clear hS hcx
  have hxl : X.length ≤ 1000000 := by rw [Tx.size_mk] at hxs; exact hxs
  obtain ⟨a1, -⟩ := Tx.adds_ok Tryz.prog [⟨#[42]⟩] ⟨X.toArray⟩ (by simp only [List.map_cons, List.map_nil, List.sum_cons, List.sum_nil, Tx.size_mk]; simp; omega)
  obtain ⟨b1, b2, -⟩ := Tx.adds_ok Tryz.prog [⟨J.toArray⟩, ⟨#[34]⟩] ⟨#[34]⟩ (by simp only [List.map_cons, List.map_nil, List.sum_cons, List.sum_nil, Tx.size_mk]; simp; omega)
  have f1 : Hid (∀ w, Calls Tryz.prog 60 #[.int .i64 f, .string ⟨X.toArray⟩] w fun e w' => e = .returned (.string ⟨(Qr.fieldT f ++ X).toArray⟩) ∧ w' = w) := Lib.hid fun w => r21_fielded_c f HF.out ⟨X.toArray⟩ w (by omega)
  have f2 : Hid (∀ w, Calls Tryz.prog 60 #[.int .i64 f, .string (⟨X.toArray⟩ ++ ⟨#[42]⟩)] w fun e w' => e = .returned (.string ⟨(Qr.fieldT f ++ (X ++ [42])).toArray⟩) ∧ w' = w) := Lib.hid fun w => by
    have := r21_fielded_c f HF.out (⟨X.toArray⟩ ++ ⟨#[42]⟩) w (by rw [ByteArray.size_append, Tx.size_mk, show (⟨#[42]⟩ : ByteArray).size = 1 from rfl]; omega)
    simpa [Tx.bcat] using this
  have f3 : Hid (∀ w, Calls Tryz.prog 60 #[.int .i64 f, .string (⟨#[34]⟩ ++ ⟨J.toArray⟩ ++ ⟨#[34]⟩)] w fun e w' => e = .returned (.string ⟨(Qr.fieldT f ++ ([34] ++ J ++ [34])).toArray⟩) ∧ w' = w) := Lib.hid fun w => by
    have := r21_fielded_c f HF.out (⟨#[34]⟩ ++ ⟨J.toArray⟩ ++ ⟨#[34]⟩) w (by simp only [ByteArray.size_append, Tx.size_mk, List.length_cons, List.length_nil]; omega)
    simpa [Tx.bcat] using this
  have g3 : Hid (∀ w', Below W.heap.size W w' → Calls Tryz.prog 61 #[.slice (some ⟨b, p, none⟩) ws.length sc, .string ⟨#[32]⟩] w' fun e w'' => e = .returned (.string ⟨J.toArray⟩) ∧ w'' = w') := Lib.hid fun w' hb => by
    have := r08_Joined_c ws _ sc ⟨#[32]⟩ w' (HS.out.below hb) (by rw [show Lib.join (ws.map (·.data.toList)) (⟨#[32]⟩ : ByteArray).data.toList = J from HJ.out]; omega)
    rw [show Lib.join (ws.map (·.data.toList)) (⟨#[32]⟩ : ByteArray).data.toList = J from HJ.out] at this
    exact this
  rcases ho with rfl | rfl | rfl
  · go_enter Tryz.func34, Tryz.ntmps34
    go_wp2
    clear hW
    go_quiet ((go_at_call 60; exact Calls.quiet_of_same (f1.out _)))
    go_wp2
    go_ret
    exact ⟨Tx.rets (by rw [HT.out]; rfl), hB.trans (below_drewN.mono hB.size)⟩
  · go_enter Tryz.func34, Tryz.ntmps34
    go_wp2
    clear hW
    go_quiet ((go_at_call 60; exact Calls.quiet_of_same (f2.out _)))
    go_wp2
    go_ret
    exact ⟨Tx.rets (by rw [HT.out]; rfl), hB.trans (below_drewN.mono hB.size)⟩
  · go_enter Tryz.func34, Tryz.ntmps34
    go_wp2
    clear hW
    go_quiet ((first | (go_at_call 60; exact Calls.quiet_of_same (f3.out _)) | (go_at_call 61; exact Calls.quiet_of_same (g3.out _ below_drewN))))
    go_wp2
    go_ret
    exact ⟨Tx.rets (by rw [HT.out]; rfl), hB.trans (below_drewN.mono hB.size)⟩

end Go.Proofs.YtkahplbjbidemaaGreatDoor

/- The reference's text of a range of years: what the call returns. -/
namespace Go.Proofs.YtkahplbjbidemaaGreatDoor
open Go.RowKit
set_option maxRecDepth 100000

theorem r11_Decimal_i (a : Int) (w : World) (h0 : 0 ≤ a) (h : a ≤ 1000000000000) :
    Calls Tryz.prog 62 #[.int .i64 a] w fun e w' => e = .returned (.string ⟨(Lib.itoa a).toArray⟩) ∧ Below w.heap.size w w' := by
  obtain ⟨n, rfl⟩ := Int.eq_ofNat_of_zero_le h0
  rw [Nm.itoa_nat]
  exact r11_Decimal_c n w (by omega)
set_option maxHeartbeats 1600000 in
theorem r21_text_y (ya yb : Int) (h1 : 1 ≤ ya ∧ ya ≤ 2199) (h2 : 1 ≤ yb ∧ yb ≤ 2199) (sa ka : Option Addr) (sc kc : Nat) (w : World) :
    Calls Tryz.prog 34 #[.agg #[.int .i64 4, .int .i64 0, .slice sa 0 sc, .int .i64 ya, .int .i64 yb, .slice ka 0 kc]] w fun e w' => e = .returned (.string ⟨(Qr.text (.mk 4 0 [] ya yb [])).toArray⟩) ∧ Below w.heap.size w w' := by
  have e1 := Lib.itoa_length_le ya (by omega) (by omega)
  have e2 := Lib.itoa_length_le yb (by omega) (by omega)
  obtain ⟨W, hW⟩ : ∃ W, w.alloc (.cells #[.int .i64 4, .int .i64 0, .slice sa 0 sc, .int .i64 ya, .int .i64 yb, .slice ka 0 kc] 25) = W := ⟨_, rfl⟩
  have hB : Below w.heap.size w W := by rw [← hW]; exact Tx.newb _ _
  have c0 : W.cell? ⟨w.heap.size, 0, none⟩ = some (.int .i64 4) := by rw [← hW]; simp
  have c3 : W.cell? ⟨w.heap.size, 3, none⟩ = some (.int .i64 ya) := by rw [← hW]; simp
  have c4 : W.cell? ⟨w.heap.size, 4, none⟩ = some (.int .i64 yb) := by rw [← hW]; simp
  obtain ⟨a1, a2, a3, -⟩ := Tx.adds_ok Tryz.prog [⟨(Lib.itoa ya).toArray⟩, ⟨#[45]⟩, ⟨(Lib.itoa yb).toArray⟩] ⟨#[121, 101, 97, 114, 58]⟩ (by simp only [List.map_cons, List.map_nil, List.sum_cons, List.sum_nil, Tx.size_mk]; simp; omega)
  go_enter Tryz.func34, Tryz.ntmps34
  go_wp2
  clear hW
  go_region_held3 (fun w' => Below W.heap.size W w' ∧ w'.cell? ⟨w.heap.size, 3, none⟩ = some (.int .i64 ya) ∧ w'.cell? ⟨w.heap.size, 4, none⟩ = some (.int .i64 yb))
    (first
      | exact ⟨(Below.refl _ _).drew, c3, c4⟩
      | (go_split_ands; exact ⟨Tx.step (by assumption) hbc, cell_later hbc (by assumption), cell_later hbc (by assumption)⟩))
    ((go_split_ands; go_at_call 62; refine (r11_Decimal_i _ _ (by omega) (by omega)).mono ?_; rintro e w1 ⟨rfl, hbc⟩))
  clear a1 a2 a3
  go_split_ands
  go_wp2
  go_ret
  exact ⟨Tx.rets (by rw [Qr.text_eq]; simp [Tx.bcat]), hB.trans ((by assumption : Below W.heap.size W _).mono hB.size)⟩
end Go.Proofs.YtkahplbjbidemaaGreatDoor

/- The reference's text of a search, and its Print: what the calls return. -/
namespace Go.Proofs.YtkahplbjbidemaaGreatDoor
open Go.RowKit
set_option maxRecDepth 100000

set_option maxHeartbeats 6400000 in
theorem r21_text_k5 (B : Nat) (ks : List Qr.Qy) (h8 : ks.length ≤ 8) (sa ka : Option Addr) (sc kc : Nat) (w : World) (hK : Qr.KA B w ka kc ks) (hn : Qr.nodesL ks ≤ 1000000) (hsh : ∀ k ∈ ks, Qr.Sh k) (hz : ∀ k ∈ ks, Qr.Wz 1000000 k)
    (ih : ∀ k ∈ ks, ∀ (cs : List Value) (w : World), Qr.QC B w k cs → Calls Tryz.prog 34 #[.agg cs.toArray] w fun e w' => e = .returned (.string ⟨(Qr.text k).toArray⟩) ∧ Below w.heap.size w w') (hl : (Qr.text (.mk 5 0 [] 0 0 ks)).length ≤ 100000000000000) :
    Calls Tryz.prog 34 #[.agg #[.int .i64 5, .int .i64 0, .slice sa 0 sc, .int .i64 0, .int .i64 0, .slice ka ks.length kc]] w fun e w' => e = .returned (.string ⟨(Qr.text (.mk 5 0 [] 0 0 ks)).toArray⟩) ∧ Below w.heap.size w w' := by
  have IH := Lib.hid ih; clear ih
  obtain ⟨W, hW⟩ : ∃ W, w.alloc (.cells #[.int .i64 5, .int .i64 0, .slice sa 0 sc, .int .i64 0, .int .i64 0, .slice ka ks.length kc] 25) = W := ⟨_, rfl⟩
  have hB : Below w.heap.size w W := by rw [← hW]; exact Tx.newb _ _
  have c0 : W.cell? ⟨w.heap.size, 0, none⟩ = some (.int .i64 5) := by rw [← hW]; simp
  have c5 : W.cell? ⟨w.heap.size, 5, none⟩ = some (.slice ka ks.length kc) := by rw [← hW]; simp
  have hS := hK.below hB
  rw [Qr.text_kids (by decide)] at hl ⊢
  rw [show Qr.sepT 5 = [32, 65, 78, 68, 32] from rfl] at hl ⊢
  have HL := Lib.hid hl; clear hl
  have HSH := Lib.hid hsh; clear hsh
  have HZ := Lib.hid hz; clear hz
  clear hK
  go_enter Tryz.func34, Tryz.ntmps34
  go_wp2
  clear hW c0
  go_loopw [4, 5] (fun v i wr => ∃ (k : Nat) (O : List UInt8), k ≤ ks.length ∧ i = .int .i64 k ∧ v = .string ⟨O.toArray⟩ ∧ Hid (O = Lib.join ((ks.take k).map Qr.parT) [32, 65, 78, 68, 32]) ∧ Below W.heap.size W wr) (fun _ i _ => ks.length - (intOf i).toNat)
  case atStart => exact ⟨0, [], Nat.zero_le _, rfl, rfl, Lib.hid rfl, Below.refl _ _⟩
  case round =>
    obtain ⟨k, O, hk, rfl, rfl, hO, hb⟩ := hrel
    have e5 := cell_later hb c5
    by_cases hlt : k < ks.length
    · obtain ⟨x, hx⟩ : ∃ x, ks[k]? = some x := ⟨_, List.getElem?_eq_getElem hlt⟩
      obtain ⟨b, o, sa2, sc2, ka2, kc2, rfl, hbl, d0, d1, d2, d3, d4, d5, hq⟩ := (hS.below hb).get hx
      have hmem := List.mem_of_getElem? hx
      have hnk := Qr.nodes_kid hmem
      have htl := Qr.text_le x (HSH.out x hmem) (HZ.out x hmem)
      obtain ⟨j0, j1⟩ := Jn.round (f := Qr.parT) hx hO.out HL.out
      obtain ⟨T, hT⟩ : ∃ T, Qr.text x = T := ⟨_, rfl⟩
      rw [hT] at htl
      have hnx : Qr.nodes x * 10000000 ≤ 1000000 * 10000000 := Nat.mul_le_mul_right _ (by omega)
      have hTL : T.length ≤ 10000000000000 := by omega
      obtain ⟨xo, hxo⟩ : ∃ xo, x.op = xo := ⟨_, rfl⟩
      have hpt : Qr.parT x = if 5 ≤ xo then [40] ++ T ++ [41] else T := by unfold Qr.parT; rw [hT, hxo]
      have HM := Lib.hid hmem; clear hmem
      have HX := Lib.hid hq; clear hq
      have HT := Lib.hid hT; clear hT
      rw [hxo] at d0 HX
      clear htl hnx hx hnk hxo
      obtain ⟨a1, a2, -⟩ := Tx.adds_ok Tryz.prog [⟨T.toArray⟩, ⟨#[41]⟩] ⟨#[40]⟩ (by simp only [List.map_cons, List.map_nil, List.sum_cons, List.sum_nil, Tx.size_mk]; simp; omega)
      by_cases h0 : k = 0
      · obtain ⟨hO0, j2, j3⟩ := j0 h0
        subst hO0
        rw [hpt] at j2 j3
        have hk0 : ¬ 0 < k := by omega
        have HJ := Lib.hid j2; clear j2 j0 j1 hpt hO h0
        by_cases h5 : 5 ≤ xo
        · rw [if_pos h5] at HJ j3
          obtain ⟨b1, -⟩ := Tx.adds_ok Tryz.prog [⟨#[40]⟩ ++ ⟨T.toArray⟩ ++ ⟨#[41]⟩] ⟨#[]⟩ (by simp only [List.map_cons, List.map_nil, List.sum_cons, List.sum_nil, ByteArray.size_append, Tx.size_mk]; simp; omega)
          go_wp2_with (go_at_call 34; refine (IH.out x HM.out _ _ HX.out).mono ?_; rintro e w2 ⟨rfl, hb2⟩; rw [HT.out]; have f5 := cell_later hb2 e5; have f0 := cell_later hb2 d0)
          go_roundw
          case rel => exact ⟨k + 1, [40] ++ T ++ [41], hlt, by go_num, by simp [Tx.bcat], HJ, Tx.step hb hb2⟩
          case measure => simp [intOf]; omega
        · rw [if_neg h5] at HJ j3
          obtain ⟨b1, -⟩ := Tx.adds_ok Tryz.prog [⟨T.toArray⟩] ⟨#[]⟩ (by simp only [List.map_cons, List.map_nil, List.sum_cons, List.sum_nil, Tx.size_mk]; simp; omega)
          go_wp2_with (go_at_call 34; refine (IH.out x HM.out _ _ HX.out).mono ?_; rintro e w2 ⟨rfl, hb2⟩; rw [HT.out]; have f5 := cell_later hb2 e5; have f0 := cell_later hb2 d0)
          go_roundw
          case rel => exact ⟨k + 1, T, hlt, by go_num, by simp [Tx.bcat], HJ, Tx.step hb hb2⟩
          case measure => simp [intOf]; omega
      · obtain ⟨j2, j3⟩ := j1 h0
        rw [hpt] at j2 j3
        have hkp : 0 < k := by omega
        have HJ := Lib.hid j2; clear j2 j0 j1 hpt hO h0
        by_cases h5 : 5 ≤ xo
        · rw [if_pos h5] at HJ j3
          obtain ⟨b1, b2, -⟩ := Tx.adds_ok Tryz.prog [⟨#[32, 65, 78, 68, 32]⟩, ⟨#[40]⟩ ++ ⟨T.toArray⟩ ++ ⟨#[41]⟩] ⟨O.toArray⟩ (by simp only [List.map_cons, List.map_nil, List.sum_cons, List.sum_nil, ByteArray.size_append, Tx.size_mk]; simp at j3 ⊢; omega)
          go_wp2_with (go_at_call 34; refine (IH.out x HM.out _ _ HX.out).mono ?_; rintro e w2 ⟨rfl, hb2⟩; rw [HT.out]; have f5 := cell_later hb2 e5; have f0 := cell_later hb2 d0)
          go_roundw
          case rel => exact ⟨k + 1, O ++ [32, 65, 78, 68, 32] ++ ([40] ++ T ++ [41]), hlt, by go_num, by simp [Tx.bcat], HJ, Tx.step hb hb2⟩
          case measure => simp [intOf]; omega
        · rw [if_neg h5] at HJ j3
          obtain ⟨b1, b2, -⟩ := Tx.adds_ok Tryz.prog [⟨#[32, 65, 78, 68, 32]⟩, ⟨T.toArray⟩] ⟨O.toArray⟩ (by simp only [List.map_cons, List.map_nil, List.sum_cons, List.sum_nil, Tx.size_mk]; omega)
          go_wp2_with (go_at_call 34; refine (IH.out x HM.out _ _ HX.out).mono ?_; rintro e w2 ⟨rfl, hb2⟩; rw [HT.out]; have f5 := cell_later hb2 e5; have f0 := cell_later hb2 d0)
          go_roundw
          case rel => exact ⟨k + 1, O ++ [32, 65, 78, 68, 32] ++ T, hlt, by go_num, by simp [Tx.bcat], HJ, Tx.step hb hb2⟩
          case measure => simp [intOf]; omega
    · obtain rfl : k = ks.length := by omega
      have hO2 := hO.out
      rw [List.take_length] at hO2
      have HO := Lib.hid hO2; clear hO2 hO
      go_wp2
      go_ret
      exact ⟨Tx.rets (by rw [HO.out]), hB.trans (hb.mono hB.size)⟩

set_option maxHeartbeats 6400000 in
theorem r21_text_k6 (B : Nat) (ks : List Qr.Qy) (h8 : ks.length ≤ 8) (sa ka : Option Addr) (sc kc : Nat) (w : World) (hK : Qr.KA B w ka kc ks) (hn : Qr.nodesL ks ≤ 1000000) (hsh : ∀ k ∈ ks, Qr.Sh k) (hz : ∀ k ∈ ks, Qr.Wz 1000000 k)
    (ih : ∀ k ∈ ks, ∀ (cs : List Value) (w : World), Qr.QC B w k cs → Calls Tryz.prog 34 #[.agg cs.toArray] w fun e w' => e = .returned (.string ⟨(Qr.text k).toArray⟩) ∧ Below w.heap.size w w') (hl : (Qr.text (.mk 6 0 [] 0 0 ks)).length ≤ 100000000000000) :
    Calls Tryz.prog 34 #[.agg #[.int .i64 6, .int .i64 0, .slice sa 0 sc, .int .i64 0, .int .i64 0, .slice ka ks.length kc]] w fun e w' => e = .returned (.string ⟨(Qr.text (.mk 6 0 [] 0 0 ks)).toArray⟩) ∧ Below w.heap.size w w' := by
  have IH := Lib.hid ih; clear ih
  obtain ⟨W, hW⟩ : ∃ W, w.alloc (.cells #[.int .i64 6, .int .i64 0, .slice sa 0 sc, .int .i64 0, .int .i64 0, .slice ka ks.length kc] 25) = W := ⟨_, rfl⟩
  have hB : Below w.heap.size w W := by rw [← hW]; exact Tx.newb _ _
  have c0 : W.cell? ⟨w.heap.size, 0, none⟩ = some (.int .i64 6) := by rw [← hW]; simp
  have c5 : W.cell? ⟨w.heap.size, 5, none⟩ = some (.slice ka ks.length kc) := by rw [← hW]; simp
  have hS := hK.below hB
  rw [Qr.text_kids (by decide)] at hl ⊢
  rw [show Qr.sepT 6 = [32, 79, 82, 32] from rfl] at hl ⊢
  have HL := Lib.hid hl; clear hl
  have HSH := Lib.hid hsh; clear hsh
  have HZ := Lib.hid hz; clear hz
  clear hK
  go_enter Tryz.func34, Tryz.ntmps34
  go_wp2
  clear hW c0
  go_loopw [4, 5] (fun v i wr => ∃ (k : Nat) (O : List UInt8), k ≤ ks.length ∧ i = .int .i64 k ∧ v = .string ⟨O.toArray⟩ ∧ Hid (O = Lib.join ((ks.take k).map Qr.parT) [32, 79, 82, 32]) ∧ Below W.heap.size W wr) (fun _ i _ => ks.length - (intOf i).toNat)
  case atStart => exact ⟨0, [], Nat.zero_le _, rfl, rfl, Lib.hid rfl, Below.refl _ _⟩
  case round =>
    obtain ⟨k, O, hk, rfl, rfl, hO, hb⟩ := hrel
    have e5 := cell_later hb c5
    by_cases hlt : k < ks.length
    · obtain ⟨x, hx⟩ : ∃ x, ks[k]? = some x := ⟨_, List.getElem?_eq_getElem hlt⟩
      obtain ⟨b, o, sa2, sc2, ka2, kc2, rfl, hbl, d0, d1, d2, d3, d4, d5, hq⟩ := (hS.below hb).get hx
      have hmem := List.mem_of_getElem? hx
      have hnk := Qr.nodes_kid hmem
      have htl := Qr.text_le x (HSH.out x hmem) (HZ.out x hmem)
      obtain ⟨j0, j1⟩ := Jn.round (f := Qr.parT) hx hO.out HL.out
      obtain ⟨T, hT⟩ : ∃ T, Qr.text x = T := ⟨_, rfl⟩
      rw [hT] at htl
      have hnx : Qr.nodes x * 10000000 ≤ 1000000 * 10000000 := Nat.mul_le_mul_right _ (by omega)
      have hTL : T.length ≤ 10000000000000 := by omega
      obtain ⟨xo, hxo⟩ : ∃ xo, x.op = xo := ⟨_, rfl⟩
      have hpt : Qr.parT x = if 5 ≤ xo then [40] ++ T ++ [41] else T := by unfold Qr.parT; rw [hT, hxo]
      have HM := Lib.hid hmem; clear hmem
      have HX := Lib.hid hq; clear hq
      have HT := Lib.hid hT; clear hT
      rw [hxo] at d0 HX
      clear htl hnx hx hnk hxo
      obtain ⟨a1, a2, -⟩ := Tx.adds_ok Tryz.prog [⟨T.toArray⟩, ⟨#[41]⟩] ⟨#[40]⟩ (by simp only [List.map_cons, List.map_nil, List.sum_cons, List.sum_nil, Tx.size_mk]; simp; omega)
      by_cases h0 : k = 0
      · obtain ⟨hO0, j2, j3⟩ := j0 h0
        subst hO0
        rw [hpt] at j2 j3
        have hk0 : ¬ 0 < k := by omega
        have HJ := Lib.hid j2; clear j2 j0 j1 hpt hO h0
        by_cases h5 : 5 ≤ xo
        · rw [if_pos h5] at HJ j3
          obtain ⟨b1, -⟩ := Tx.adds_ok Tryz.prog [⟨#[40]⟩ ++ ⟨T.toArray⟩ ++ ⟨#[41]⟩] ⟨#[]⟩ (by simp only [List.map_cons, List.map_nil, List.sum_cons, List.sum_nil, ByteArray.size_append, Tx.size_mk]; simp; omega)
          go_wp2_with (go_at_call 34; refine (IH.out x HM.out _ _ HX.out).mono ?_; rintro e w2 ⟨rfl, hb2⟩; rw [HT.out]; have f5 := cell_later hb2 e5; have f0 := cell_later hb2 d0)
          go_roundw
          case rel => exact ⟨k + 1, [40] ++ T ++ [41], hlt, by go_num, by simp [Tx.bcat], HJ, Tx.step hb hb2⟩
          case measure => simp [intOf]; omega
        · rw [if_neg h5] at HJ j3
          obtain ⟨b1, -⟩ := Tx.adds_ok Tryz.prog [⟨T.toArray⟩] ⟨#[]⟩ (by simp only [List.map_cons, List.map_nil, List.sum_cons, List.sum_nil, Tx.size_mk]; simp; omega)
          go_wp2_with (go_at_call 34; refine (IH.out x HM.out _ _ HX.out).mono ?_; rintro e w2 ⟨rfl, hb2⟩; rw [HT.out]; have f5 := cell_later hb2 e5; have f0 := cell_later hb2 d0)
          go_roundw
          case rel => exact ⟨k + 1, T, hlt, by go_num, by simp [Tx.bcat], HJ, Tx.step hb hb2⟩
          case measure => simp [intOf]; omega
      · obtain ⟨j2, j3⟩ := j1 h0
        rw [hpt] at j2 j3
        have hkp : 0 < k := by omega
        have HJ := Lib.hid j2; clear j2 j0 j1 hpt hO h0
        by_cases h5 : 5 ≤ xo
        · rw [if_pos h5] at HJ j3
          obtain ⟨b1, b2, -⟩ := Tx.adds_ok Tryz.prog [⟨#[32, 79, 82, 32]⟩, ⟨#[40]⟩ ++ ⟨T.toArray⟩ ++ ⟨#[41]⟩] ⟨O.toArray⟩ (by simp only [List.map_cons, List.map_nil, List.sum_cons, List.sum_nil, ByteArray.size_append, Tx.size_mk]; simp at j3 ⊢; omega)
          go_wp2_with (go_at_call 34; refine (IH.out x HM.out _ _ HX.out).mono ?_; rintro e w2 ⟨rfl, hb2⟩; rw [HT.out]; have f5 := cell_later hb2 e5; have f0 := cell_later hb2 d0)
          go_roundw
          case rel => exact ⟨k + 1, O ++ [32, 79, 82, 32] ++ ([40] ++ T ++ [41]), hlt, by go_num, by simp [Tx.bcat], HJ, Tx.step hb hb2⟩
          case measure => simp [intOf]; omega
        · rw [if_neg h5] at HJ j3
          obtain ⟨b1, b2, -⟩ := Tx.adds_ok Tryz.prog [⟨#[32, 79, 82, 32]⟩, ⟨T.toArray⟩] ⟨O.toArray⟩ (by simp only [List.map_cons, List.map_nil, List.sum_cons, List.sum_nil, Tx.size_mk]; omega)
          go_wp2_with (go_at_call 34; refine (IH.out x HM.out _ _ HX.out).mono ?_; rintro e w2 ⟨rfl, hb2⟩; rw [HT.out]; have f5 := cell_later hb2 e5; have f0 := cell_later hb2 d0)
          go_roundw
          case rel => exact ⟨k + 1, O ++ [32, 79, 82, 32] ++ T, hlt, by go_num, by simp [Tx.bcat], HJ, Tx.step hb hb2⟩
          case measure => simp [intOf]; omega
    · obtain rfl : k = ks.length := by omega
      have hO2 := hO.out
      rw [List.take_length] at hO2
      have HO := Lib.hid hO2; clear hO2 hO
      go_wp2
      go_ret
      exact ⟨Tx.rets (by rw [HO.out]), hB.trans (hb.mono hB.size)⟩

set_option maxHeartbeats 6400000 in
theorem r21_text_k7 (B : Nat) (ks : List Qr.Qy) (h8 : ks.length ≤ 8) (sa ka : Option Addr) (sc kc : Nat) (w : World) (hK : Qr.KA B w ka kc ks) (hn : Qr.nodesL ks ≤ 1000000) (hsh : ∀ k ∈ ks, Qr.Sh k) (hz : ∀ k ∈ ks, Qr.Wz 1000000 k)
    (ih : ∀ k ∈ ks, ∀ (cs : List Value) (w : World), Qr.QC B w k cs → Calls Tryz.prog 34 #[.agg cs.toArray] w fun e w' => e = .returned (.string ⟨(Qr.text k).toArray⟩) ∧ Below w.heap.size w w') (hl : (Qr.text (.mk 7 0 [] 0 0 ks)).length ≤ 100000000000000) :
    Calls Tryz.prog 34 #[.agg #[.int .i64 7, .int .i64 0, .slice sa 0 sc, .int .i64 0, .int .i64 0, .slice ka ks.length kc]] w fun e w' => e = .returned (.string ⟨(Qr.text (.mk 7 0 [] 0 0 ks)).toArray⟩) ∧ Below w.heap.size w w' := by
  have IH := Lib.hid ih; clear ih
  obtain ⟨W, hW⟩ : ∃ W, w.alloc (.cells #[.int .i64 7, .int .i64 0, .slice sa 0 sc, .int .i64 0, .int .i64 0, .slice ka ks.length kc] 25) = W := ⟨_, rfl⟩
  have hB : Below w.heap.size w W := by rw [← hW]; exact Tx.newb _ _
  have c0 : W.cell? ⟨w.heap.size, 0, none⟩ = some (.int .i64 7) := by rw [← hW]; simp
  have c5 : W.cell? ⟨w.heap.size, 5, none⟩ = some (.slice ka ks.length kc) := by rw [← hW]; simp
  have hS := hK.below hB
  rw [Qr.text_kids (by decide)] at hl ⊢
  rw [show Qr.sepT 7 = [32, 78, 79, 84, 32] from rfl] at hl ⊢
  have HL := Lib.hid hl; clear hl
  have HSH := Lib.hid hsh; clear hsh
  have HZ := Lib.hid hz; clear hz
  clear hK
  go_enter Tryz.func34, Tryz.ntmps34
  go_wp2
  clear hW c0
  go_loopw [4, 5] (fun v i wr => ∃ (k : Nat) (O : List UInt8), k ≤ ks.length ∧ i = .int .i64 k ∧ v = .string ⟨O.toArray⟩ ∧ Hid (O = Lib.join ((ks.take k).map Qr.parT) [32, 78, 79, 84, 32]) ∧ Below W.heap.size W wr) (fun _ i _ => ks.length - (intOf i).toNat)
  case atStart => exact ⟨0, [], Nat.zero_le _, rfl, rfl, Lib.hid rfl, Below.refl _ _⟩
  case round =>
    obtain ⟨k, O, hk, rfl, rfl, hO, hb⟩ := hrel
    have e5 := cell_later hb c5
    by_cases hlt : k < ks.length
    · obtain ⟨x, hx⟩ : ∃ x, ks[k]? = some x := ⟨_, List.getElem?_eq_getElem hlt⟩
      obtain ⟨b, o, sa2, sc2, ka2, kc2, rfl, hbl, d0, d1, d2, d3, d4, d5, hq⟩ := (hS.below hb).get hx
      have hmem := List.mem_of_getElem? hx
      have hnk := Qr.nodes_kid hmem
      have htl := Qr.text_le x (HSH.out x hmem) (HZ.out x hmem)
      obtain ⟨j0, j1⟩ := Jn.round (f := Qr.parT) hx hO.out HL.out
      obtain ⟨T, hT⟩ : ∃ T, Qr.text x = T := ⟨_, rfl⟩
      rw [hT] at htl
      have hnx : Qr.nodes x * 10000000 ≤ 1000000 * 10000000 := Nat.mul_le_mul_right _ (by omega)
      have hTL : T.length ≤ 10000000000000 := by omega
      obtain ⟨xo, hxo⟩ : ∃ xo, x.op = xo := ⟨_, rfl⟩
      have hpt : Qr.parT x = if 5 ≤ xo then [40] ++ T ++ [41] else T := by unfold Qr.parT; rw [hT, hxo]
      have HM := Lib.hid hmem; clear hmem
      have HX := Lib.hid hq; clear hq
      have HT := Lib.hid hT; clear hT
      rw [hxo] at d0 HX
      clear htl hnx hx hnk hxo
      obtain ⟨a1, a2, -⟩ := Tx.adds_ok Tryz.prog [⟨T.toArray⟩, ⟨#[41]⟩] ⟨#[40]⟩ (by simp only [List.map_cons, List.map_nil, List.sum_cons, List.sum_nil, Tx.size_mk]; simp; omega)
      by_cases h0 : k = 0
      · obtain ⟨hO0, j2, j3⟩ := j0 h0
        subst hO0
        rw [hpt] at j2 j3
        have hk0 : ¬ 0 < k := by omega
        have HJ := Lib.hid j2; clear j2 j0 j1 hpt hO h0
        by_cases h5 : 5 ≤ xo
        · rw [if_pos h5] at HJ j3
          obtain ⟨b1, -⟩ := Tx.adds_ok Tryz.prog [⟨#[40]⟩ ++ ⟨T.toArray⟩ ++ ⟨#[41]⟩] ⟨#[]⟩ (by simp only [List.map_cons, List.map_nil, List.sum_cons, List.sum_nil, ByteArray.size_append, Tx.size_mk]; simp; omega)
          go_wp2_with (go_at_call 34; refine (IH.out x HM.out _ _ HX.out).mono ?_; rintro e w2 ⟨rfl, hb2⟩; rw [HT.out]; have f5 := cell_later hb2 e5; have f0 := cell_later hb2 d0)
          go_roundw
          case rel => exact ⟨k + 1, [40] ++ T ++ [41], hlt, by go_num, by simp [Tx.bcat], HJ, Tx.step hb hb2⟩
          case measure => simp [intOf]; omega
        · rw [if_neg h5] at HJ j3
          obtain ⟨b1, -⟩ := Tx.adds_ok Tryz.prog [⟨T.toArray⟩] ⟨#[]⟩ (by simp only [List.map_cons, List.map_nil, List.sum_cons, List.sum_nil, Tx.size_mk]; simp; omega)
          go_wp2_with (go_at_call 34; refine (IH.out x HM.out _ _ HX.out).mono ?_; rintro e w2 ⟨rfl, hb2⟩; rw [HT.out]; have f5 := cell_later hb2 e5; have f0 := cell_later hb2 d0)
          go_roundw
          case rel => exact ⟨k + 1, T, hlt, by go_num, by simp [Tx.bcat], HJ, Tx.step hb hb2⟩
          case measure => simp [intOf]; omega
      · obtain ⟨j2, j3⟩ := j1 h0
        rw [hpt] at j2 j3
        have hkp : 0 < k := by omega
        have HJ := Lib.hid j2; clear j2 j0 j1 hpt hO h0
        by_cases h5 : 5 ≤ xo
        · rw [if_pos h5] at HJ j3
          obtain ⟨b1, b2, -⟩ := Tx.adds_ok Tryz.prog [⟨#[32, 78, 79, 84, 32]⟩, ⟨#[40]⟩ ++ ⟨T.toArray⟩ ++ ⟨#[41]⟩] ⟨O.toArray⟩ (by simp only [List.map_cons, List.map_nil, List.sum_cons, List.sum_nil, ByteArray.size_append, Tx.size_mk]; simp at j3 ⊢; omega)
          go_wp2_with (go_at_call 34; refine (IH.out x HM.out _ _ HX.out).mono ?_; rintro e w2 ⟨rfl, hb2⟩; rw [HT.out]; have f5 := cell_later hb2 e5; have f0 := cell_later hb2 d0)
          go_roundw
          case rel => exact ⟨k + 1, O ++ [32, 78, 79, 84, 32] ++ ([40] ++ T ++ [41]), hlt, by go_num, by simp [Tx.bcat], HJ, Tx.step hb hb2⟩
          case measure => simp [intOf]; omega
        · rw [if_neg h5] at HJ j3
          obtain ⟨b1, b2, -⟩ := Tx.adds_ok Tryz.prog [⟨#[32, 78, 79, 84, 32]⟩, ⟨T.toArray⟩] ⟨O.toArray⟩ (by simp only [List.map_cons, List.map_nil, List.sum_cons, List.sum_nil, Tx.size_mk]; omega)
          go_wp2_with (go_at_call 34; refine (IH.out x HM.out _ _ HX.out).mono ?_; rintro e w2 ⟨rfl, hb2⟩; rw [HT.out]; have f5 := cell_later hb2 e5; have f0 := cell_later hb2 d0)
          go_roundw
          case rel => exact ⟨k + 1, O ++ [32, 78, 79, 84, 32] ++ T, hlt, by go_num, by simp [Tx.bcat], HJ, Tx.step hb hb2⟩
          case measure => simp [intOf]; omega
    · obtain rfl : k = ks.length := by omega
      have hO2 := hO.out
      rw [List.take_length] at hO2
      have HO := Lib.hid hO2; clear hO2 hO
      go_wp2
      go_ret
      exact ⟨Tx.rets (by rw [HO.out]), hB.trans (hb.mono hB.size)⟩
end Go.Proofs.YtkahplbjbidemaaGreatDoor

/- The reference's text of a search, and its Print: what the calls return. -/
namespace Go.Proofs.YtkahplbjbidemaaGreatDoor
open Go.RowKit
set_option maxRecDepth 100000

theorem r21_text_c (B : Nat) : ∀ (q : Qr.Qy) (cs : List Value) (w : World), Qr.QC B w q cs → Qr.Sh q → Qr.Wz 1000000 q → Qr.nodes q ≤ 1000000 →
    Calls Tryz.prog 34 #[.agg cs.toArray] w fun e w' => e = .returned (.string ⟨(Qr.text q).toArray⟩) ∧ Below w.heap.size w w' := by
  refine Qr.Qy.ind ?_
  intro op fl ws ya yb ks ih cs w h hs hz hn
  obtain ⟨sa, sc, ka, kc, rfl, hS, _, hK⟩ := h.kids
  obtain ⟨_, hA, _, _⟩ := h.sla
  dsimp only [Qr.Qy.op, Qr.Qy.fld, Qr.Qy.a, Qr.Qy.b, Qr.Qy.ks, Qr.Qy.ws] at hK hS ⊢
  have hl := Qr.text_le _ hs hz
  cases hs with
  | term h1 h2 h3 =>
    obtain ⟨b, p, rfl, hat⟩ := Qr.sl_at hS h3.1
    obtain ⟨x, hx⟩ : ∃ x, ws[0]? = some x := ⟨_, List.getElem?_eq_getElem (by omega)⟩
    have hxe : x = ⟨x.data.toList.toArray⟩ := by simp
    exact r21_text_t op h1 fl h2 ws x.data.toList (by rw [← hxe]; exact hx) h3.2 hz.ws b p sc ka kc w (hA (by intro h0; rw [h0] at hx; simp at hx)) (by rw [← hxe]; exact hat 0 x hx)
  | years h1 h2 => exact r21_text_y ya yb h1 h2 sa ka sc kc w
  | kids h1 h2 h3 =>
    have hnn : Qr.nodes (.mk op 0 [] 0 0 ks) = 1 + Qr.nodesL ks := rfl
    have hi : ∀ k ∈ ks, ∀ (cs : List Value) (w : World), Qr.QC B w k cs → Calls Tryz.prog 34 #[.agg cs.toArray] w fun e w' => e = .returned (.string ⟨(Qr.text k).toArray⟩) ∧ Below w.heap.size w w' :=
      fun k hk cs w hq => ih k hk cs w hq (h3 k hk) (hz.ks k hk) (by have := Qr.nodes_kid hk; omega)
    rcases h1 with rfl | rfl | rfl
    · exact r21_text_k5 B ks h2 sa ka sc kc w hK (by omega) h3 hz.ks hi (by omega)
    · exact r21_text_k6 B ks h2 sa ka sc kc w hK (by omega) h3 hz.ks hi (by omega)
    · exact r21_text_k7 B ks h2 sa ka sc kc w hK (by omega) h3 hz.ks hi (by omega)

set_option maxHeartbeats 1600000 in
theorem r21_Print_c (B : Nat) (q : Qr.Qy) (cs : List Value) (w : World) (h : Qr.QC B w q cs) (hz : Qr.Wz 1000000 q) (hn : Qr.nodes q ≤ 1000000) :
    Calls Tryz.prog 18 #[.agg cs.toArray] w fun e w' => e = .returned (.tuple #[.string ⟨(Qr.printT q).toArray⟩, .int .i64 (Qr.rightE q)]) ∧ Below w.heap.size w w' := by
  obtain ⟨op, fl, ya, yb, ws, ks, sa, sc, ka, kc, hq, rfl⟩ := h.eta
  clear hq
  obtain ⟨W, hW⟩ : ∃ W, w.alloc (.cells #[.int .i64 op, .int .i64 fl, .slice sa ws.length sc, .int .i64 ya, .int .i64 yb, .slice ka ks.length kc] 25) = W := ⟨_, rfl⟩
  have hB : Below w.heap.size w W := by rw [← hW]; exact Tx.newb _ _
  have c0 : W.cell? ⟨w.heap.size, 0, none⟩ = some (.int .i64 op) := by rw [← hW]; simp
  have c1 : W.cell? ⟨w.heap.size, 1, none⟩ = some (.int .i64 fl) := by rw [← hW]; simp
  have c2 : W.cell? ⟨w.heap.size, 2, none⟩ = some (.slice sa ws.length sc) := by rw [← hW]; simp
  have c3 : W.cell? ⟨w.heap.size, 3, none⟩ = some (.int .i64 ya) := by rw [← hW]; simp
  have c4 : W.cell? ⟨w.heap.size, 4, none⟩ = some (.int .i64 yb) := by rw [← hW]; simp
  have c5 : W.cell? ⟨w.heap.size, 5, none⟩ = some (.slice ka ks.length kc) := by rw [← hW]; simp
  have HQ := Lib.hid (h.later hB); clear h
  have HZ := Lib.hid hz; clear hz
  obtain ⟨r, hr⟩ : ∃ r, Qr.rightE q = r := ⟨_, rfl⟩
  have HR := Lib.hid hr
  have hsh : r = 0 → Qr.Sh q := by
    intro h0
    rw [h0] at hr
    unfold Qr.rightE at hr
    split at hr
    · simp at hr
    · exact Qr.sh_of q hr
  have HSH := Lib.hid hsh; clear hsh
  have hPT : Qr.printT q = if r = 0 then Qr.text q else [] := by unfold Qr.printT; rw [hr]
  rw [hPT, hr]
  clear hr hPT
  by_cases h0 : r = 0
  · subst h0
    rw [if_pos rfl]
    have HS0 := Lib.hid (HSH.out rfl); clear HSH
    go_enter Tryz.func18, Tryz.ntmps18
    go_wp2_with (first
      | (go_at_call 34; refine (r21_text_c B q _ _ (HQ.out.later hb1) HS0.out HZ.out hn).mono ?_; rintro e w2 ⟨rfl, hb2⟩)
      | (go_at_call 11; refine (r21_Right_c B q _ W HQ.out HZ.out (by omega)).mono ?_; rintro e w1 ⟨rfl, hb1⟩; rw [HR.out]; have e0 := cell_later hb1 c0; have e1 := cell_later hb1 c1; have e2 := cell_later hb1 c2; have e3 := cell_later hb1 c3; have e4 := cell_later hb1 c4; have e5 := cell_later hb1 c5))
    refine bodyPost_ret (v := .tuple #[.string ⟨(Qr.text q).toArray⟩, .int .i64 0]) (by simp [results, Tryz.results18, go_sem]) rfl ?_
    exact ⟨rfl, hB.trans ((Tx.step hb1 hb2).mono hB.size)⟩
  · rw [if_neg h0]
    have hb : (r != 0) = true := by simpa using h0
    clear h0
    go_enter Tryz.func18, Tryz.ntmps18
    go_wp2_with (go_at_call 11; refine (r21_Right_c B q _ W HQ.out HZ.out (by omega)).mono ?_; rintro e w1 ⟨rfl, hb1⟩; rw [HR.out])
    refine bodyPost_ret (v := .tuple #[.string ⟨([] : List UInt8).toArray⟩, .int .i64 r]) (by simp [results, Tryz.results18, go_sem]) rfl ?_
    exact ⟨rfl, hB.trans (hb1.mono hB.size)⟩
end Go.Proofs.YtkahplbjbidemaaGreatDoor
