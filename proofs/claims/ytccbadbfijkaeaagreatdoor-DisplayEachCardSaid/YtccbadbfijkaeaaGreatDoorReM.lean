/- The reference's displays of a record: what the calls return. -/
import Derived.Test.YtccbadbfijkaeaaGreatDoorRhM
import Derived.Test.YtccbadbfijkaeaaGreatDoorRgM
import Derived.Test.YtccbadbfijkaeaaGreatDoorDsE
namespace Go.Proofs.YtccbadbfijkaeaaGreatDoor
open Go.RowKit
set_option maxRecDepth 100000

namespace Rc
theorem Okf.gds {fs : List Fl} (hk : ∀ f ∈ fs, Okf f) : ∀ f ∈ fs, Gd f := fun f hf => (hk f hf).gd
theorem Okf.tags {fs : List Fl} (hk : ∀ f ∈ fs, Okf f) : ∀ f ∈ fs, f.tag.data.toList.length = 3 := fun f hf => (hk f hf).tag
end Rc
theorem r08_TitleO_c (fs : List Rc.Fl) (a : Option Addr) (c : Nat) (id ver kind : Int) (lang : ByteArray) (w : World) (h : Rc.FldA w a c fs) (hk : ∀ f ∈ fs, Rc.Okf f) (hn : fs.length ≤ 64) :
    Calls Tryz.prog 65 #[.agg #[.int .i64 id, .int .i64 ver, .int .i64 kind, .string lang, .slice a fs.length c]] w fun e w' => e = .returned (.string ⟨(Rc.title fs).toArray⟩) ∧ Below w.heap.size w w' := by
  rw [← Rc.titleR_eq (Rc.Okf.tags hk)]
  exact r08_Title_c fs a c id ver kind lang w h (Rc.Okf.gds hk) (by omega)
theorem r08_AuthorO_c (fs : List Rc.Fl) (a : Option Addr) (c : Nat) (id ver kind : Int) (lang : ByteArray) (w : World) (h : Rc.FldA w a c fs) (hk : ∀ f ∈ fs, Rc.Okf f) (hn : fs.length ≤ 64) :
    Calls Tryz.prog 36 #[.agg #[.int .i64 id, .int .i64 ver, .int .i64 kind, .string lang, .slice a fs.length c]] w fun e w' => e = .returned (.string ⟨(Rc.author fs).toArray⟩) ∧ Below w.heap.size w w' := by
  rw [← Rc.authorR_eq (Rc.Okf.tags hk)]
  exact r08_Author_c fs a c id ver kind lang w h (by omega)

set_option maxHeartbeats 800000 in
theorem r25_Heading_c (fs : List Rc.Fl) (a : Option Addr) (c : Nat) (id ver kind : Int) (lang : ByteArray) (w : World) (h : Rc.FldA w a c fs) (hk : ∀ f ∈ fs, Rc.Okf f) (hn : fs.length ≤ 64) :
    Calls Tryz.prog 35 #[.agg #[.int .i64 id, .int .i64 ver, .int .i64 kind, .string lang, .slice a fs.length c]] w fun e w' => e = .returned (.string ⟨(Ds.heading fs).toArray⟩) ∧ Below w.heap.size w w' := by
  obtain ⟨W, hW⟩ : ∃ W, w.alloc (.cells #[.int .i64 id, .int .i64 ver, .int .i64 kind, .string lang, .slice a fs.length c] 24) = W := ⟨_, rfl⟩
  have hbc : Below w.heap.size w W := by rw [← hW]; exact Tx.newb _ _
  have c0 : W.cell? ⟨w.heap.size, 0, none⟩ = some (.int .i64 id) := by rw [← hW]; simp
  have c1 : W.cell? ⟨w.heap.size, 1, none⟩ = some (.int .i64 ver) := by rw [← hW]; simp
  have c2 : W.cell? ⟨w.heap.size, 2, none⟩ = some (.int .i64 kind) := by rw [← hW]; simp
  have c3 : W.cell? ⟨w.heap.size, 3, none⟩ = some (.string lang) := by rw [← hW]; simp
  have c4 : W.cell? ⟨w.heap.size, 4, none⟩ = some (.slice a fs.length c) := by rw [← hW]; simp
  have hS := h.below hbc
  have hmx : maxLen = 9223372036854775807 := rfl
  obtain ⟨T, hT⟩ : ∃ T, Rc.title fs = T := ⟨_, rfl⟩
  have hh : Ds.heading fs = if T = [] then [117, 110, 116, 105, 116, 108, 101, 100] else T := by rw [← hT]; rfl
  have HT := Lib.hid hT; clear hT
  have HK := Lib.hid hk; clear hk
  cases he : T.isEmpty with
  | true =>
    have HH := Lib.hid (show Ds.heading fs = [117, 110, 116, 105, 116, 108, 101, 100] by rw [hh, if_pos (by simpa using he)]); clear hh
    go_enter Tryz.func35, Tryz.ntmps35
    go_wp2_with (go_at_call 65; refine (r08_TitleO_c fs a c id ver kind lang _ hS HK.out hn).mono ?_; rintro e w1 ⟨rfl, hb1⟩; rw [HT.out]; replace hbc := Tx.step hbc hb1; replace hS := hS.below hb1; replace c0 := cell_later hb1 c0; replace c1 := cell_later hb1 c1; replace c2 := cell_later hb1 c2; replace c3 := cell_later hb1 c3; replace c4 := cell_later hb1 c4; clear hb1)
    go_ret
    exact ⟨Tx.rets (by rw [HH.out]), hbc⟩
  | false =>
    have HH := Lib.hid (show Ds.heading fs = T by rw [hh, if_neg (by simpa using he)]); clear hh
    go_enter Tryz.func35, Tryz.ntmps35
    go_wp2_with (go_at_call 65; refine (r08_TitleO_c fs a c id ver kind lang _ hS HK.out hn).mono ?_; rintro e w1 ⟨rfl, hb1⟩; rw [HT.out]; replace hbc := Tx.step hbc hb1; replace hS := hS.below hb1; replace c0 := cell_later hb1 c0; replace c1 := cell_later hb1 c1; replace c2 := cell_later hb1 c2; replace c3 := cell_later hb1 c3; replace c4 := cell_later hb1 c4; clear hb1)
    go_ret
    exact ⟨Tx.rets (by rw [HH.out]), hbc⟩

set_option maxHeartbeats 1600000 in
theorem r25_Brief_c (fs : List Rc.Fl) (a : Option Addr) (c : Nat) (id ver kind : Int) (lang : ByteArray) (w : World) (h : Rc.FldA w a c fs) (hk : ∀ f ∈ fs, Rc.Okf f) (hn : fs.length ≤ 64) :
    Calls Tryz.prog 13 #[.agg #[.int .i64 id, .int .i64 ver, .int .i64 kind, .string lang, .slice a fs.length c]] w fun e w' => e = .returned (.string ⟨(Ds.brief fs).toArray⟩) ∧ Below w.heap.size w w' := by
  obtain ⟨W, hW⟩ : ∃ W, w.alloc (.cells #[.int .i64 id, .int .i64 ver, .int .i64 kind, .string lang, .slice a fs.length c] 24) = W := ⟨_, rfl⟩
  have hbc : Below w.heap.size w W := by rw [← hW]; exact Tx.newb _ _
  have c0 : W.cell? ⟨w.heap.size, 0, none⟩ = some (.int .i64 id) := by rw [← hW]; simp
  have c1 : W.cell? ⟨w.heap.size, 1, none⟩ = some (.int .i64 ver) := by rw [← hW]; simp
  have c2 : W.cell? ⟨w.heap.size, 2, none⟩ = some (.int .i64 kind) := by rw [← hW]; simp
  have c3 : W.cell? ⟨w.heap.size, 3, none⟩ = some (.string lang) := by rw [← hW]; simp
  have c4 : W.cell? ⟨w.heap.size, 4, none⟩ = some (.slice a fs.length c) := by rw [← hW]; simp
  have hS := h.below hbc
  have hmx : maxLen = 9223372036854775807 := rfl
  have hg := Rc.Okf.gds hk
  have la := Ds.author_le hg
  have lh := Ds.heading_le hg
  have ly := Ds.year_le fs
  have li := Ds.itoa_year_le _ ly
  have HK := Lib.hid hk; clear hk
  have HG := Lib.hid hg; clear hg
  have hbr : Ds.brief fs = (if Rc.author fs = [] then [] else Rc.author fs ++ [58, 32]) ++ Ds.heading fs ++ (if Rc.year fs = 0 then [] else [32, 40] ++ Lib.itoa (Rc.year fs) ++ [41]) := rfl
  have HBR := Lib.hid hbr; clear hbr
  obtain ⟨H, hH⟩ : ∃ H, Ds.heading fs = H := ⟨_, rfl⟩
  obtain ⟨A, hA⟩ : ∃ A, Rc.author fs = A := ⟨_, rfl⟩
  obtain ⟨Y, hY⟩ : ∃ Y, Rc.year fs = Y := ⟨_, rfl⟩
  rw [hH] at lh
  rw [hA] at la
  rw [hY] at ly li
  have HH := Lib.hid hH; clear hH
  have HA := Lib.hid hA; clear hA
  have HY := Lib.hid hY; clear hY
  obtain ⟨a1, a2, -⟩ := Tx.adds_ok Tryz.prog [⟨#[58, 32]⟩, ⟨H.toArray⟩] ⟨A.toArray⟩ (by simp only [List.map_cons, List.map_nil, List.sum_cons, List.sum_nil, Tx.size_mk]; simp; omega)
  obtain ⟨b1, b2, -⟩ := Tx.adds_ok Tryz.prog [⟨(Lib.itoa (Y : Int)).toArray⟩, ⟨#[41]⟩] ⟨#[32, 40]⟩ (by simp only [List.map_cons, List.map_nil, List.sum_cons, List.sum_nil, Tx.size_mk]; simp; omega)
  have d1 : ∀ W', (Op.stringOp .add (⟨A.toArray⟩ ++ ⟨#[58, 32]⟩ ++ ⟨H.toArray⟩ : ByteArray) (⟨#[32, 40]⟩ ++ ⟨(Lib.itoa (Y : Int)).toArray⟩ ++ ⟨#[41]⟩)).run Tryz.prog W' = .ok (.string ((⟨A.toArray⟩ ++ ⟨#[58, 32]⟩ ++ ⟨H.toArray⟩ : ByteArray) ++ (⟨#[32, 40]⟩ ++ ⟨(Lib.itoa (Y : Int)).toArray⟩ ++ ⟨#[41]⟩))) W' := fun W' => run_string_add_sum W' _ _ (by simp [ByteArray.size]; omega)
  have d2 : ∀ W', (Op.stringOp .add (⟨H.toArray⟩ : ByteArray) (⟨#[32, 40]⟩ ++ ⟨(Lib.itoa (Y : Int)).toArray⟩ ++ ⟨#[41]⟩)).run Tryz.prog W' = .ok (.string ((⟨H.toArray⟩ : ByteArray) ++ (⟨#[32, 40]⟩ ++ ⟨(Lib.itoa (Y : Int)).toArray⟩ ++ ⟨#[41]⟩))) W' := fun W' => run_string_add_sum W' _ _ (by simp [ByteArray.size]; omega)
  have hce : ∃ z, A.isEmpty = z := ⟨_, rfl⟩
  obtain ⟨z, hz⟩ := hce
  have hyc : ∃ y, ((Y : Int) != 0) = y := ⟨_, rfl⟩
  obtain ⟨y, hy⟩ := hyc
  cases z <;> cases y
  all_goals
    go_enter Tryz.func13, Tryz.ntmps13
    go_wp2_with (first
      | (go_at_call 35; refine (r25_Heading_c fs a c id ver kind lang _ hS HK.out hn).mono ?_; rintro e w1 ⟨rfl, hb1⟩; rw [HH.out]; clear hW; replace hbc := Tx.step hbc hb1; replace hS := hS.below hb1; replace c0 := cell_later hb1 c0; replace c1 := cell_later hb1 c1; replace c2 := cell_later hb1 c2; replace c3 := cell_later hb1 c3; replace c4 := cell_later hb1 c4; clear hb1)
      | (go_at_call 36; refine (r08_AuthorO_c fs a c id ver kind lang _ hS HK.out hn).mono ?_; rintro e w1 ⟨rfl, hb1⟩; rw [HA.out]; replace hbc := Tx.step hbc hb1; replace hS := hS.below hb1; replace c0 := cell_later hb1 c0; replace c1 := cell_later hb1 c1; replace c2 := cell_later hb1 c2; replace c3 := cell_later hb1 c3; replace c4 := cell_later hb1 c4; clear hb1)
      | (go_at_call 37; refine (r08_Year_c fs a c id ver kind lang _ hS HG.out).mono ?_; rintro e w1 ⟨rfl, hb1⟩; rw [HY.out]; replace hbc := Tx.step hbc hb1; replace hS := hS.below hb1; replace c0 := cell_later hb1 c0; replace c1 := cell_later hb1 c1; replace c2 := cell_later hb1 c2; replace c3 := cell_later hb1 c3; replace c4 := cell_later hb1 c4; clear hb1)
      | (go_at_call 38; refine (r25_Number_c _ _ (by omega) (by omega)).mono ?_; rintro e w1 ⟨rfl, hb1⟩; replace hbc := Tx.step hbc hb1; replace hS := hS.below hb1; replace c0 := cell_later hb1 c0; replace c1 := cell_later hb1 c1; replace c2 := cell_later hb1 c2; replace c3 := cell_later hb1 c3; replace c4 := cell_later hb1 c4; clear hb1))
    go_ret
    have hzA : (A = []) = (A.isEmpty = true) := by simp
    have hyY : (Y = 0) = (((Y : Int) != 0) = false) := by simp
    exact ⟨Tx.rets (by rw [HBR.out, HA.out, HH.out, HY.out]; simp only [hzA, hyY, hz, hy]; simp [Tx.bcat]), hbc⟩

set_option maxHeartbeats 800000 in
theorem r25_Ended_c (X : List UInt8) (w : World) (hX : X ≠ []) (hl : X.length ≤ 1000000000) :
    Calls Tryz.prog 42 #[.string ⟨X.toArray⟩] w fun e w' => e = .returned (.string ⟨(Ds.ended X).toArray⟩) ∧ w = w' := by
  have hp : 0 < X.length := List.length_pos_iff.2 hX
  obtain ⟨y, hy⟩ : ∃ y, X.getD (X.length - 1) 0 = y := ⟨_, rfl⟩
  have hlast : X.getLast? = some y := by
    rw [List.getLast?_eq_getElem?, ← hy, List.getD_eq_getElem?_getD, List.getElem?_eq_getElem (by omega)]
    rfl
  have he : Ds.ended X = if y = 46 then X else X ++ [46] := by unfold Ds.ended; rw [hlast]; simp
  have hsz : (⟨X.toArray⟩ : ByteArray).size = X.length := Tx.size_mk X
  have hq : ((y.toNat : Int) == 46) = (y == 46) := Rc.u8_eq (a := y) (b := 46)
  obtain ⟨a1, -⟩ := Tx.adds_ok Tryz.prog [⟨#[46]⟩] ⟨X.toArray⟩ (by simp only [List.map_cons, List.map_nil, List.sum_cons, List.sum_nil, Tx.size_mk]; simp; omega)
  obtain ⟨n, hn⟩ : ∃ n, X.length = n + 1 := ⟨X.length - 1, by omega⟩
  have e0 : ∀ h, (⟨X.toArray⟩ : ByteArray)[n]'h = y := fun h => by rw [← hy, ← Tx.getD_at ⟨X.toArray⟩ n h, show X.length - 1 = n by omega]
  by_cases h46 : y = 46
  · rw [if_pos h46] at he
    have HE := Lib.hid he
    have hq2 : (y == 46) = true := by simpa using h46
    rw [hq2] at hq
    clear he hlast hy h46 hX hq2
    go_enter Tryz.func42, Tryz.ntmps42
    go_wp2
    go_ret
    exact ⟨Tx.rets (by rw [HE.out]), rfl⟩
  · rw [if_neg h46] at he
    have HE := Lib.hid he
    have hq2 : (y == 46) = false := by simpa using h46
    rw [hq2] at hq
    clear he hlast hy h46 hX hq2
    go_enter Tryz.func42, Tryz.ntmps42
    go_wp2
    go_ret
    exact ⟨Tx.rets (by rw [HE.out]; exact Tx.bcat X ⟨#[46]⟩), rfl⟩
end Go.Proofs.YtccbadbfijkaeaaGreatDoor

/- The reference's table of labels and line of a field: what the calls return. -/
namespace Go.Proofs.YtccbadbfijkaeaaGreatDoor
open Go.RowKit
set_option maxRecDepth 100000

namespace Ds
abbrev encR (r : Rc.By × Rc.By × Rc.By) : List Value := [.string ⟨r.1.toArray⟩, .string ⟨r.2.1.toArray⟩, .string ⟨r.2.2.toArray⟩]
/-- The table lies in a block. -/
def RowsA (w : World) (g : Nat) : Prop := g < w.heap.size ∧ ∀ (j : Nat) r, rows[j]? = some r → w.cell? ⟨g, j * 3, none⟩ = some (.string ⟨r.1.toArray⟩) ∧ w.cell? ⟨g, j * 3 + 1, none⟩ = some (.string ⟨r.2.1.toArray⟩) ∧ w.cell? ⟨g, j * 3 + 2, none⟩ = some (.string ⟨r.2.2.toArray⟩)
theorem RowsA.below {w w' : World} {g : Nat} (h : RowsA w g) (hb : Below w.heap.size w w') : RowsA w' g :=
  ⟨Nat.lt_of_lt_of_le h.1 hb.size, fun j r hr => ⟨cell_later hb (h.2 j r hr).1, cell_later hb (h.2 j r hr).2.1, cell_later hb (h.2 j r hr).2.2⟩⟩
theorem rows_flat {j i : Nat} {r : Rc.By × Rc.By × Rc.By} {u : Value} (h : rows[j]? = some r) (hi : i < 3) (hu : (encR r)[i]? = some u) : (rows.flatMap encR).toArray[j * 3 + i]? = some u := by
  rw [List.getElem?_toArray, Br.flat_at encR 3 (fun _ => rfl) rows j i r h hi, hu]
theorem RowsA.new (w : World) (t : TypeId) : RowsA (w.alloc (.cells (rows.flatMap encR).toArray t)) w.heap.size :=
  ⟨by simp, fun j r hr => ⟨(cell_of_row _ _ _ _ _ (0, 0) (heap_alloc_new w _)).trans (rows_flat hr (i := 0) (by omega) rfl), (cell_of_row _ _ _ _ _ (0, 0) (heap_alloc_new w _)).trans (rows_flat hr (i := 1) (by omega) rfl), (cell_of_row _ _ _ _ _ (0, 0) (heap_alloc_new w _)).trans (rows_flat hr (i := 2) (by omega) rfl)⟩⟩
theorem fold_take (f : Rc.Fl) {k : Nat} {r : Rc.By × Rc.By × Rc.By} (h : rows[k]? = some r) (st : Rc.By × Rc.By) : (rows.take (k + 1)).foldl (rowStep f) st = rowStep f ((rows.take k).foldl (rowStep f) st) r := by
  rw [List.take_add_one, h, List.foldl_append]
  rfl
theorem step_hit (f : Rc.Fl) (st : Rc.By × Rc.By) {r : Rc.By × Rc.By × Rc.By} (h : r.1 = f.tag.data.toList) : rowStep f st r = (r.2.1, Rc.plain f.subs r.2.2) := by unfold rowStep; rw [if_pos h]
theorem step_miss (f : Rc.Fl) (st : Rc.By × Rc.By) {r : Rc.By × Rc.By × Rc.By} (h : ¬ r.1 = f.tag.data.toList) : rowStep f st r = st := by unfold rowStep; rw [if_neg h]
theorem lineR_of {f : Rc.Fl} {N S : Rc.By} (h : rows.foldl (rowStep f) (line0 f) = (N, S)) : lineR f = if S = [] then [] else N ++ [58, 32] ++ S := by unfold lineR; rw [h]
end Ds

set_option maxHeartbeats 1600000 in
theorem r25_rows_c (w : World) :
    Calls Tryz.prog 81 #[] w fun e w' => ∃ g, e = .returned (.slice (some ⟨g, 0, none⟩) 16 16) ∧ Ds.RowsA w' g ∧ Below w.heap.size w w' := by
  go_enter Tryz.func81, Tryz.ntmps81
  go_wp2
  go_ret
  exact ⟨w.heap.size, rfl, Ds.RowsA.new w _, Tx.newb _ _⟩

set_option maxHeartbeats 3200000 in
theorem r25_Line_c (f : Rc.Fl) (a : Option Addr) (c : Nat) (w : World) (h : Rc.SubA w a c f.subs) (hg : Rc.Gd f) :
    Calls Tryz.prog 47 #[.agg #[.string f.tag, .string f.ind, .slice a f.subs.length c, .int .i64 f.auth]] w fun e w' => e = .returned (.string ⟨(Ds.lineR f).toArray⟩) ∧ Below w.heap.size w w' := by
  obtain ⟨W, hW⟩ : ∃ W, w.alloc (.cells #[.string f.tag, .string f.ind, .slice a f.subs.length c, .int .i64 f.auth] 42) = W := ⟨_, rfl⟩
  have hbc : Below w.heap.size w W := by rw [← hW]; exact Tx.newb _ _
  have c0 : W.cell? ⟨w.heap.size, 0, none⟩ = some (.string f.tag) := by rw [← hW]; simp
  have c1 : W.cell? ⟨w.heap.size, 1, none⟩ = some (.string f.ind) := by rw [← hW]; simp
  have c2 : W.cell? ⟨w.heap.size, 2, none⟩ = some (.slice a f.subs.length c) := by rw [← hW]; simp
  have c3 : W.cell? ⟨w.heap.size, 3, none⟩ = some (.int .i64 f.auth) := by rw [← hW]; simp
  have hS := h.below hbc
  have hmx : maxLen = 9223372036854775807 := rfl
  have hp := fun cd => hg.plain_le cd
  have hj := hg.join_le [97, 120, 121, 122] [45, 45] (by simp)
  have HP := Lib.hid hp; clear hp
  have HG := Lib.hid hg; clear hg
  obtain ⟨J, hJ⟩ : ∃ J, Lib.join (Rc.bys (Rc.allV f.subs [97, 120, 121, 122])) [45, 45] = J := ⟨_, rfl⟩
  rw [hJ] at hj
  have HJ := Lib.hid hJ; clear hJ
  cases hb6 : Lib.hasPrefix f.tag.data.toList [54]
  all_goals
    have hl0 : Ds.line0 f = if Lib.hasPrefix f.tag.data.toList [54] = true then ([83, 117, 98, 106, 101, 99, 116], J) else ([], []) := by rw [← HJ.out]; rfl
    rw [hb6] at hl0
    simp only [Bool.false_eq_true, if_false, if_true] at hl0
    have HL0 := Lib.hid hl0; clear hl0
    have HB6 := Lib.hid hb6; clear hb6
    go_enter Tryz.func47, Tryz.ntmps47
    go_wp2_with (first
      | (go_at_call 79; refine (Begins_c f.tag ⟨#[54]⟩ _).mono ?_; rintro e w1 ⟨rfl, rfl⟩; rw [show Lib.hasPrefix f.tag.data.toList (⟨#[54]⟩ : ByteArray).data.toList = _ from HB6.out])
      | (go_at_call 68; refine (r07_All_c f a c ⟨#[97, 120, 121, 122]⟩ _ hS HG.out.1 (by decide)).mono ?_; rintro e w1 ⟨va, vc, rfl, hsl, hb1⟩; replace hbc := Tx.step hbc hb1; replace hS := hS.below hb1; replace c0 := cell_later hb1 c0; replace c1 := cell_later hb1 c1; replace c2 := cell_later hb1 c2; replace c3 := cell_later hb1 c3; clear hb1)
      | (go_at_call 80; refine (r01_Join_c _ va vc ⟨#[45, 45]⟩ _ hsl (by rw [show Lib.join (Rc.bys (Rc.allV f.subs (⟨#[97, 120, 121, 122]⟩ : ByteArray).data.toList)) (⟨#[45, 45]⟩ : ByteArray).data.toList = J from HJ.out]; omega)).mono ?_; rintro e w1 ⟨rfl, rfl⟩; rw [show Lib.join (Rc.bys (Rc.allV f.subs (⟨#[97, 120, 121, 122]⟩ : ByteArray).data.toList)) (⟨#[45, 45]⟩ : ByteArray).data.toList = J from HJ.out])
      | (go_at_call 81; refine (r25_rows_c _).mono ?_; rintro e wl ⟨g, rfl, hrows, hb1⟩; replace hbc := Tx.step hbc hb1; replace hS := hS.below hb1; replace c0 := cell_later hb1 c0; replace c1 := cell_later hb1 c1; replace c2 := cell_later hb1 c2; replace c3 := cell_later hb1 c3; clear hb1))
    try clear hW
    have hgl := hrows.1
    go_loopw [3, 4, 6] (fun v3 v4 i wr => ∃ (k : Nat) (N S : List UInt8), k ≤ 16 ∧ i = .int .i64 k ∧ v3 = .string ⟨N.toArray⟩ ∧ v4 = .string ⟨S.toArray⟩ ∧ Hid ((Ds.rows.take k).foldl (Ds.rowStep f) (Ds.line0 f) = (N, S)) ∧ N.length ≤ 10 ∧ S.length ≤ 200000000 ∧ Below wl.heap.size wl wr) (fun _ _ i _ => 16 - (intOf i).toNat)
    case atStart => first
      | exact ⟨0, [], [], by omega, rfl, rfl, rfl, Lib.hid HL0.out, by simp, by simp, Below.refl _ _⟩
      | exact ⟨0, [83, 117, 98, 106, 101, 99, 116], J, by omega, rfl, rfl, rfl, Lib.hid HL0.out, by simp, by omega, Below.refl _ _⟩
    case round =>
      obtain ⟨k, N, S, hk, rfl, rfl, rfl, hF, hN, hSl, hb⟩ := hrel
      by_cases hlt : k < 16
      · obtain ⟨r, hr⟩ : ∃ r, Ds.rows[k]? = some r := ⟨_, List.getElem?_eq_getElem hlt⟩
        obtain ⟨r0, r1, r2⟩ := hrows.2 k r hr
        have hrl := Ds.rows_len r (List.mem_of_getElem? hr)
        have hft := Ds.fold_take f hr (Ds.line0 f)
        rw [hF.out] at hft
        replace r0 := cell_later hb r0
        replace r1 := cell_later hb r1
        replace r2 := cell_later hb r2
        replace c0 := cell_later hb c0
        replace c1 := cell_later hb c1
        replace c2 := cell_later hb c2
        replace c3 := cell_later hb c3
        have hS2 := hS.below hb
        obtain ⟨rt, rn, rc⟩ := r
        simp only at r0 r1 r2 hrl
        have g1 : (k : Int) < 16 := by omega
        by_cases heq : rt = f.tag.data.toList
        · rw [Ds.step_hit f (N, S) (r := (rt, rn, rc)) heq] at hft
          have hq : (rt == f.tag.toList) = true := by rw [Lib.toList_data]; simpa using heq
          have HFT := Lib.hid hft
          have hpl := HP.out rc
          obtain ⟨hr1, hr2, _⟩ := hrl
          clear hft hr heq hF
          go_wp2
          go_quiet (fail)
          have hbq : Below wr.heap.size wr (wr.drewN nq) := Tx.below_drewN (Below.refl _ _) nq
          generalize wr.drewN nq = w3 at hbq ⊢
          replace r1 := cell_later hbq r1
          replace r2 := cell_later hbq r2
          replace c0 := cell_later hbq c0
          replace c1 := cell_later hbq c1
          replace c2 := cell_later hbq c2
          replace c3 := cell_later hbq c3
          have hS3 := (hS2.below hbq).below (Below.refl _ _).drew
          clear r0
          go_wp2
          go_region_held3 (fun w' => w'.cell? ⟨w.heap.size, 0, none⟩ = some (.string f.tag) ∧ w'.cell? ⟨w.heap.size, 1, none⟩ = some (.string f.ind) ∧ w'.cell? ⟨w.heap.size, 2, none⟩ = some (.slice a f.subs.length c) ∧ w'.cell? ⟨w.heap.size, 3, none⟩ = some (.int .i64 f.auth) ∧ w'.cell? ⟨g, k * 3 + 2, none⟩ = some (.string ⟨rc.toArray⟩)) (go_keep)
            (first | ((go_at_call 76; refine (r07_Plain_c f a c ⟨rc.toArray⟩ _ hS3 HG.out (by rw [Tx.size_mk]; omega)).mono ?_; rintro e w4 ⟨rfl, hb4⟩; have hb4u := Tx.undrew hb4; replace c0 := cell_later hb4u c0; replace c1 := cell_later hb4u c1; replace c2 := cell_later hb4u c2; replace c3 := cell_later hb4u c3; replace r2 := cell_later hb4u r2)))
          rw [show Rc.plain f.subs (⟨rc.toArray⟩ : ByteArray).data.toList = Rc.plain f.subs rc from rfl]
          go_wp2
          go_roundw
          case rel => exact ⟨k + 1, rn, Rc.plain f.subs rc, by omega, by go_num, rfl, rfl, HFT, by omega, hpl, Tx.step (Tx.step hb hbq) hb4u⟩
          case measure => simp [intOf]; omega
        · rw [Ds.step_miss f (N, S) (r := (rt, rn, rc)) heq] at hft
          have hq : (rt == f.tag.toList) = false := by rw [Lib.toList_data]; simpa using heq
          have HFT := Lib.hid hft
          clear hft hr heq hF hrl r1 r2 c1 c2 c3
          go_wp2
          go_quiet (fail)
          go_wp2
          go_roundw
          case rel => exact ⟨k + 1, N, S, by omega, by go_num, rfl, rfl, HFT, hN, hSl, Tx.below_drewN hb _⟩
          case measure => simp [intOf]; omega
      · obtain rfl : k = 16 := by omega
        have hfin := Ds.lineR_of (f := f) (N := N) (S := S) hF.out
        have hbw := Tx.step hbc hb
        clear hF
        cases he : S.isEmpty with
        | true =>
          rw [if_pos (by simpa using he)] at hfin
          have HF := Lib.hid hfin; clear hfin
          go_wp2
          go_ret
          exact ⟨Tx.rets (by rw [HF.out]), hbw⟩
        | false =>
          rw [if_neg (by simpa using he)] at hfin
          have HF := Lib.hid hfin; clear hfin
          obtain ⟨a1, a2, -⟩ := Tx.adds_ok Tryz.prog [⟨#[58, 32]⟩, ⟨S.toArray⟩] ⟨N.toArray⟩ (by simp only [List.map_cons, List.map_nil, List.sum_cons, List.sum_nil, Tx.size_mk]; simp; omega)
          go_wp2
          go_ret
          exact ⟨Tx.rets (by rw [HF.out]; simp [Tx.bcat]), hbw⟩
end Go.Proofs.YtccbadbfijkaeaaGreatDoor

/- The reference's Full, Publication and Cite: what the calls return. -/
namespace Go.Proofs.YtccbadbfijkaeaaGreatDoor
open Go.RowKit
set_option maxRecDepth 100000

namespace Ds
theorem full_takeR {fs : List Rc.Fl} {k : Nat} {f : Rc.Fl} (h : fs[k]? = some f) : full (fs.take (k + 1)) = full (fs.take k) ++ (if lineR f = [] then [] else [lineR f]) := by rw [lineR_eq]; exact full_take h
theorem publisher_at {fs : List Rc.Fl} {k : Nat} {f : Rc.Fl} (h : fs[k]? = some f) : (fs.drop k).find? Rc.pubTag = if Rc.pubTag f = true then some f else (fs.drop (k + 1)).find? Rc.pubTag := by
  have hk : k < fs.length := (List.getElem?_eq_some_iff.1 h).1
  rw [List.drop_eq_getElem_cons hk, (List.getElem?_eq_some_iff.1 h).2, List.find?_cons]
  cases Rc.pubTag f <;> rfl
theorem publisher_some {fs : List Rc.Fl} {f : Rc.Fl} (h : fs.find? Rc.pubTag = some f) : publisher fs = Rc.plain f.subs [98] := by unfold publisher; rw [h]
theorem publisher_none {fs : List Rc.Fl} (h : fs.find? Rc.pubTag = none) : publisher fs = [] := by unfold publisher; rw [h]
theorem ended_le2 (X : List UInt8) : (ended X).length ≤ X.length + 1 := by unfold ended; split <;> simp
end Ds

set_option maxHeartbeats 1600000 in
theorem r25_Full_c (fs : List Rc.Fl) (a : Option Addr) (c : Nat) (id ver kind : Int) (lang : ByteArray) (w : World) (h : Rc.FldA w a c fs) (hg : ∀ f ∈ fs, Rc.Gd f) (hn : fs.length ≤ 1000000) :
    Calls Tryz.prog 18 #[.agg #[.int .i64 id, .int .i64 ver, .int .i64 kind, .string lang, .slice a fs.length c]] w fun e w' => ∃ va vc, e = .returned (.slice va ((Ds.full fs).map Ds.mk).length vc) ∧ SLA w' va vc ((Ds.full fs).map Ds.mk) ∧ Below w.heap.size w w' := by
  obtain ⟨i0, hi0, hz0, hz1, hz2⟩ := info_parts info_str
  obtain ⟨W, hW⟩ : ∃ W, w.alloc (.cells #[.int .i64 id, .int .i64 ver, .int .i64 kind, .string lang, .slice a fs.length c] 24) = W := ⟨_, rfl⟩
  have hbc : Below w.heap.size w W := by rw [← hW]; exact Tx.newb _ _
  have c0 : W.cell? ⟨w.heap.size, 0, none⟩ = some (.int .i64 id) := by rw [← hW]; simp
  have c1 : W.cell? ⟨w.heap.size, 1, none⟩ = some (.int .i64 ver) := by rw [← hW]; simp
  have c2 : W.cell? ⟨w.heap.size, 2, none⟩ = some (.int .i64 kind) := by rw [← hW]; simp
  have c3 : W.cell? ⟨w.heap.size, 3, none⟩ = some (.string lang) := by rw [← hW]; simp
  have c4 : W.cell? ⟨w.heap.size, 4, none⟩ = some (.slice a fs.length c) := by rw [← hW]; simp
  have hS := h.below hbc
  have hmx : maxLen = 9223372036854775807 := rfl
  have hcap := h.cap
  have hmax := h.max
  have hws : w.heap.size < W.heap.size := by rw [← hW]; simp
  have HG := Lib.hid hg; clear hg
  go_enter Tryz.func18, Tryz.ntmps18
  go_wp2
  clear hW
  go_loopw [3, 4, 5] (fun v i _ wr => ∃ (k : Nat) (L : List ByteArray), k ≤ fs.length ∧ i = .int .i64 k ∧ Hid (L = (Ds.full (fs.take k)).map Ds.mk) ∧ L.length ≤ k ∧ wr.ownsRow W.heap.size 9 1 v L.length (L.map Value.string) ∧ Below W.heap.size W wr) (fun _ i _ _ => fs.length - (intOf i).toNat)
  case atStart => exact ⟨0, [], Nat.zero_le _, rfl, Lib.hid rfl, Nat.le_refl _, World.ownsRow_lit (base := W.heap.size) (e := 9) (size := 1) W #[] 0 (by simp) (by unfold maxLen; omega) rfl, Tx.newb _ _⟩
  case round =>
    obtain ⟨k, L, hk, rfl, hL, hLk, hown, hb⟩ := hrel
    have hbw := Tx.step hbc hb
    have hbs := hb.size
    replace c4 := cell_later hb c4
    clear c0 c1 c2 c3
    by_cases hlt : k < fs.length
    · obtain ⟨f, hf⟩ : ∃ f, fs[k]? = some f := ⟨_, List.getElem?_eq_getElem hlt⟩
      have hgf := HG.out f (List.mem_of_getElem? hf)
      obtain ⟨b, o, sa, sc, rfl, hbl, d0, d1, d2, d3, hsub⟩ := hS.get hf
      replace d0 := cell_later hb d0
      replace d1 := cell_later hb d1
      replace d2 := cell_later hb d2
      replace d3 := cell_later hb d3
      have hsub1 := hsub.below hb
      have hft := congrArg (List.map Ds.mk) (Ds.full_takeR hf)
      rw [List.map_append, ← hL.out] at hft
      obtain ⟨X, hX⟩ : ∃ X, Ds.lineR f = X := ⟨_, rfl⟩
      rw [hX] at hft
      have HX := Lib.hid hX; clear hX hf
      have HGF := Lib.hid hgf; clear hgf
      by_cases hX0 : X = []
      · subst hX0
        rw [if_pos rfl, List.map_nil, List.append_nil] at hft
        have HT := Lib.hid hft; clear hft
        go_wp2_with (go_at_call 47; refine (r25_Line_c f sa sc _ hsub1 HGF.out).mono ?_; rintro e w1 ⟨rfl, hb1⟩; rw [HX.out])
        go_roundw
        case rel => exact ⟨k + 1, L, by omega, by go_num, Lib.hid HT.out.symm, by omega, own_below hown hb1, Tx.step hb hb1⟩
        case measure => simp [intOf]; omega
      · rw [if_neg hX0, List.map_cons, List.map_nil] at hft
        have hXe : X.isEmpty = false := by simpa using hX0
        have HT := Lib.hid hft; clear hft hX0
        go_wp2_with (first
          | (go_at_call 47; refine (r25_Line_c f sa sc _ hsub1 HGF.out).mono ?_; rintro e w1 ⟨rfl, hb1⟩; rw [HX.out])
          | (at_builtin; go_must (refine wpList_append_own _ rfl _ _ 29 rfl W.heap.size 9 i0 (.string ⟨#[]⟩) 1 16 Tryz.underlying29 hi0 hz0 hz1 hz2 rfl (by decide) _ L.length _ rfl ((own_below hown hb1).alloc _) ⟨_, 0, none⟩ 1 1 [.string ⟨X.toArray⟩] rfl rfl (Tx.cell_one_at _ _ (by first | rfl | simp) _ _) (by simp [Value.oneCell']) (by unfold maxLen; omega) (by omega) (by have := hb1.size; simp; omega) ?_); intro v' w5 hown5 hg5 hnil5))
        have hb2 := Tx.step hb hb1
        have hb5 : Below W.heap.size W w5 := (hb2.alloc hb2.size _).grown hg5 (by have := hb2.size; simp; omega) (fun j hj => (hown.lt j hj).1)
        go_roundw
        case rel => exact ⟨k + 1, L ++ [Ds.mk X], by omega, by go_num, Lib.hid HT.out.symm, by simp; omega, by simpa [Ds.mk] using hown5, hb5⟩
        case measure => simp [intOf]; omega
    · obtain rfl : k = fs.length := by omega
      have hL2 := hL.out
      rw [Rc.take_all] at hL2
      subst hL2
      obtain ⟨va, vc, rfl, hsl⟩ := SLA.of_own hown rfl
      go_wp2
      go_ret
      exact ⟨_, _, rfl, hsl, hbw⟩

set_option maxHeartbeats 3200000 in
theorem r25_Publication_c (fs : List Rc.Fl) (a : Option Addr) (c : Nat) (id ver kind : Int) (lang : ByteArray) (w : World) (h : Rc.FldA w a c fs) (hg : ∀ f ∈ fs, Rc.Gd f) :
    Calls Tryz.prog 43 #[.agg #[.int .i64 id, .int .i64 ver, .int .i64 kind, .string lang, .slice a fs.length c]] w fun e w' => e = .returned (.string ⟨(Ds.publR fs).toArray⟩) ∧ Below w.heap.size w w' := by
  obtain ⟨W, hW⟩ : ∃ W, w.alloc (.cells #[.int .i64 id, .int .i64 ver, .int .i64 kind, .string lang, .slice a fs.length c] 24) = W := ⟨_, rfl⟩
  have hbc : Below w.heap.size w W := by rw [← hW]; exact Tx.newb _ _
  have c0 : W.cell? ⟨w.heap.size, 0, none⟩ = some (.int .i64 id) := by rw [← hW]; simp
  have c1 : W.cell? ⟨w.heap.size, 1, none⟩ = some (.int .i64 ver) := by rw [← hW]; simp
  have c2 : W.cell? ⟨w.heap.size, 2, none⟩ = some (.int .i64 kind) := by rw [← hW]; simp
  have c3 : W.cell? ⟨w.heap.size, 3, none⟩ = some (.string lang) := by rw [← hW]; simp
  have c4 : W.cell? ⟨w.heap.size, 4, none⟩ = some (.slice a fs.length c) := by rw [← hW]; simp
  have hS := h.below hbc
  have hmx : maxLen = 9223372036854775807 := rfl
  have hcap := h.cap
  have hmax := h.max
  have ly := Ds.year_le fs
  have li := Ds.itoa_year_le _ ly
  have lp := Ds.publisher_le hg
  have HG := Lib.hid hg; clear hg
  have hpr : Ds.publR fs = if Rc.year fs = 0 then Ds.publisher fs else (if Ds.publisher fs = [] then [] else Ds.publisher fs ++ [44, 32]) ++ Lib.itoa (Rc.year fs) := rfl
  have HPR := Lib.hid hpr; clear hpr
  obtain ⟨P, hP⟩ : ∃ P, Ds.publisher fs = P := ⟨_, rfl⟩
  obtain ⟨Y, hY⟩ : ∃ Y, Rc.year fs = Y := ⟨_, rfl⟩
  rw [hP] at lp
  rw [hY] at ly li
  have HP := Lib.hid hP; clear hP
  have HY := Lib.hid hY; clear hY
  obtain ⟨a1, a2, -⟩ := Tx.adds_ok Tryz.prog [⟨#[44, 32]⟩, ⟨(Lib.itoa (Y : Int)).toArray⟩] ⟨P.toArray⟩ (by simp only [List.map_cons, List.map_nil, List.sum_cons, List.sum_nil, Tx.size_mk]; simp; omega)
  obtain ⟨b1, -⟩ := Tx.adds_ok Tryz.prog [⟨(Lib.itoa (Y : Int)).toArray⟩] ⟨#[]⟩ (by simp only [List.map_cons, List.map_nil, List.sum_cons, List.sum_nil, Tx.size_mk]; simp; omega)
  obtain ⟨z, hz⟩ : ∃ z, P.isEmpty = z := ⟨_, rfl⟩
  obtain ⟨y, hy⟩ : ∃ y, ((Y : Int) == 0) = y := ⟨_, rfl⟩
  have hfin : Ds.publR fs = if y = true then P else (if z = true then [] else P ++ [44, 32]) ++ Lib.itoa (Y : Int) := by
    have hzA : (P = []) = (P.isEmpty = true) := by simp
    have hyY : (Y = 0) = (((Y : Int) == 0) = true) := by simp
    rw [HPR.out, HP.out, HY.out]
    simp only [hzA, hyY, hz, hy]
  have HFIN := Lib.hid hfin; clear hfin
  have hP0 : z = true → P = [] := fun e => by rw [e] at hz; simpa using hz
  have HP0 := Lib.hid hP0; clear hP0
  go_enter Tryz.func43, Tryz.ntmps43
  go_wp2
  clear hW
  go_loopw [3, 4] (fun v i wr => ∃ (k : Nat), k ≤ fs.length ∧ i = .int .i64 k ∧ v = .string ⟨#[]⟩ ∧ Hid ((fs.drop k).find? Rc.pubTag = fs.find? Rc.pubTag) ∧ wr = W) (fun _ i _ => fs.length - (intOf i).toNat)
  case atStart => exact ⟨0, Nat.zero_le _, rfl, rfl, Lib.hid (by rw [List.drop_zero]), rfl⟩
  case round =>
    obtain ⟨k, hk, rfl, rfl, hI, rfl⟩ := hrel
    by_cases hlt : k < fs.length
    · obtain ⟨f, hf⟩ : ∃ f, fs[k]? = some f := ⟨_, List.getElem?_eq_getElem hlt⟩
      have hgf := HG.out f (List.mem_of_getElem? hf)
      obtain ⟨b, o, sa, sc, rfl, hbl, d0, d1, d2, d3, hsub⟩ := hS.get hf
      have hst := Ds.publisher_at hf
      rw [hI.out] at hst
      cases h0 : Rc.tagIs [50, 54, 48] f <;> cases h4 : Rc.tagIs [50, 54, 52] f
      · obtain ⟨e0, e4, ep⟩ := Rc.pub_eq f h0 h4
        rw [ep] at hst
        simp only [Bool.or_self, Bool.false_eq_true, if_false] at hst
        have HS := Lib.hid hst; clear hst h0 h4 ep hf hI
        go_wp2
        go_roundw
        case rel => exact ⟨k + 1, by omega, by go_num, rfl, Lib.hid HS.out.symm, trivial⟩
        case measure => simp [intOf]; omega
      all_goals
        obtain ⟨e0, e4, ep⟩ := Rc.pub_eq f h0 h4
        rw [ep] at hst
        simp only [Bool.or_self, Bool.or_true, Bool.true_or, if_true] at hst
        have hpl := Ds.publisher_some hst
        rw [HP.out] at hpl
        have HPL := Lib.hid hpl.symm; clear hpl hst h0 h4 ep hf hI
        have HGF := Lib.hid hgf; clear hgf
        cases y <;> cases z
        all_goals
          go_wp2_with (first
            | (go_at_call 76; refine (r07_Plain_c f sa sc ⟨#[98]⟩ _ hsub HGF.out (by decide)).mono ?_; rintro e w1 ⟨rfl, hb1⟩; rw [show Rc.plain f.subs (⟨#[98]⟩ : ByteArray).data.toList = P from HPL.out]; replace hbc := Tx.step hbc hb1; replace hS := hS.below hb1; replace c0 := cell_later hb1 c0; replace c1 := cell_later hb1 c1; replace c2 := cell_later hb1 c2; replace c3 := cell_later hb1 c3; replace c4 := cell_later hb1 c4; clear hb1)
            | (go_at_call 37; refine (r08_Year_c fs _ c id ver kind lang _ hS HG.out).mono ?_; rintro e w1 ⟨rfl, hb1⟩; rw [HY.out]; replace hbc := Tx.step hbc hb1; replace hS := hS.below hb1; replace c0 := cell_later hb1 c0; replace c1 := cell_later hb1 c1; replace c2 := cell_later hb1 c2; replace c3 := cell_later hb1 c3; replace c4 := cell_later hb1 c4; clear hb1)
            | (go_at_call 38; refine (r25_Number_c _ _ (by omega) (by omega)).mono ?_; rintro e w1 ⟨rfl, hb1⟩; replace hbc := Tx.step hbc hb1; replace hS := hS.below hb1; replace c0 := cell_later hb1 c0; replace c1 := cell_later hb1 c1; replace c2 := cell_later hb1 c2; replace c3 := cell_later hb1 c3; replace c4 := cell_later hb1 c4; clear hb1))
          go_ret
          refine ⟨Tx.rets ?_, hbc⟩
          rw [HFIN.out]
          first
            | rfl
            | (simp [Tx.bcat]; done)
            | (rw [HP0.out (by simp)]; simp [Tx.bcat]; done)
            | (rw [HP0.out (by simp)]; rfl)
    · obtain rfl : k = fs.length := by omega
      have hnn := hI.out
      rw [List.drop_length] at hnn
      have hP1 : P = [] := by rw [← HP.out]; exact Ds.publisher_none hnn.symm
      clear hnn hI
      subst hP1
      simp at hz
      subst hz
      cases y
      all_goals
        go_wp2_with (first
          | (go_at_call 37; refine (r08_Year_c fs _ c id ver kind lang _ hS HG.out).mono ?_; rintro e w1 ⟨rfl, hb1⟩; rw [HY.out]; replace hbc := Tx.step hbc hb1; replace hS := hS.below hb1; replace c0 := cell_later hb1 c0; replace c1 := cell_later hb1 c1; replace c2 := cell_later hb1 c2; replace c3 := cell_later hb1 c3; replace c4 := cell_later hb1 c4; clear hb1)
          | (go_at_call 38; refine (r25_Number_c _ _ (by omega) (by omega)).mono ?_; rintro e w1 ⟨rfl, hb1⟩; replace hbc := Tx.step hbc hb1; replace hS := hS.below hb1; replace c0 := cell_later hb1 c0; replace c1 := cell_later hb1 c1; replace c2 := cell_later hb1 c2; replace c3 := cell_later hb1 c3; replace c4 := cell_later hb1 c4; clear hb1))
        go_ret
        refine ⟨Tx.rets ?_, hbc⟩
        rw [HFIN.out]
        first | rfl | (simp [Tx.bcat]; done)

set_option maxHeartbeats 3200000 in
theorem r25_Cite_c (fs : List Rc.Fl) (a : Option Addr) (c : Nat) (id ver kind : Int) (lang : ByteArray) (w : World) (h : Rc.FldA w a c fs) (hk : ∀ f ∈ fs, Rc.Okf f) (hn : fs.length ≤ 64) :
    Calls Tryz.prog 15 #[.agg #[.int .i64 id, .int .i64 ver, .int .i64 kind, .string lang, .slice a fs.length c]] w fun e w' => e = .returned (.string ⟨(Ds.cite fs).toArray⟩) ∧ Below w.heap.size w w' := by
  obtain ⟨W, hW⟩ : ∃ W, w.alloc (.cells #[.int .i64 id, .int .i64 ver, .int .i64 kind, .string lang, .slice a fs.length c] 24) = W := ⟨_, rfl⟩
  have hbc : Below w.heap.size w W := by rw [← hW]; exact Tx.newb _ _
  have c0 : W.cell? ⟨w.heap.size, 0, none⟩ = some (.int .i64 id) := by rw [← hW]; simp
  have c1 : W.cell? ⟨w.heap.size, 1, none⟩ = some (.int .i64 ver) := by rw [← hW]; simp
  have c2 : W.cell? ⟨w.heap.size, 2, none⟩ = some (.int .i64 kind) := by rw [← hW]; simp
  have c3 : W.cell? ⟨w.heap.size, 3, none⟩ = some (.string lang) := by rw [← hW]; simp
  have c4 : W.cell? ⟨w.heap.size, 4, none⟩ = some (.slice a fs.length c) := by rw [← hW]; simp
  have hS := h.below hbc
  have hmx : maxLen = 9223372036854775807 := rfl
  have hg := Rc.Okf.gds hk
  have la := Ds.author_le hg
  have lh := Ds.heading_le hg
  have lp : (Ds.publ fs).length ≤ 200000010 := by rw [Ds.publ_of rfl rfl]; exact Ds.publ_le (Ds.publisher_le hg) (Ds.itoa_year_le _ (Ds.year_le fs))
  have hne := Ds.heading_ne fs
  have HK := Lib.hid hk; clear hk
  have HG := Lib.hid hg; clear hg
  have hct := Ds.citeR_eq fs
  unfold Ds.citeR at hct
  have HCT := Lib.hid hct; clear hct
  obtain ⟨A, hA⟩ : ∃ A, Rc.author fs = A := ⟨_, rfl⟩
  obtain ⟨H, hH⟩ : ∃ H, Ds.heading fs = H := ⟨_, rfl⟩
  obtain ⟨P, hP⟩ : ∃ P, Ds.publ fs = P := ⟨_, rfl⟩
  have hPR : Ds.publR fs = P := by rw [Ds.publR_eq, hP]
  rw [hA] at la
  rw [hH] at lh hne
  rw [hP] at lp
  have HA := Lib.hid hA; clear hA
  have HH := Lib.hid hH; clear hH
  have HP := Lib.hid hP; clear hP
  have HPR := Lib.hid hPR; clear hPR
  have HNE := Lib.hid hne; clear hne
  have eh := Ds.ended_le2 H
  have ea := Ds.ended_le2 A
  have ep := Ds.ended_le2 P
  obtain ⟨EH, hEH⟩ : ∃ E, Ds.ended H = E := ⟨_, rfl⟩
  obtain ⟨EA, hEA⟩ : ∃ E, Ds.ended A = E := ⟨_, rfl⟩
  obtain ⟨EP, hEP⟩ : ∃ E, Ds.ended P = E := ⟨_, rfl⟩
  rw [hEH] at eh
  rw [hEA] at ea
  rw [hEP] at ep
  have HEH := Lib.hid hEH; clear hEH
  have HEA := Lib.hid hEA; clear hEA
  have HEP := Lib.hid hEP; clear hEP
  obtain ⟨a1, a2, -⟩ := Tx.adds_ok Tryz.prog [⟨#[32]⟩, ⟨EH.toArray⟩] ⟨EA.toArray⟩ (by simp only [List.map_cons, List.map_nil, List.sum_cons, List.sum_nil, Tx.size_mk]; simp; omega)
  obtain ⟨b1, -⟩ := Tx.adds_ok Tryz.prog [⟨EP.toArray⟩] ⟨#[32]⟩ (by simp only [List.map_cons, List.map_nil, List.sum_cons, List.sum_nil, Tx.size_mk]; simp; omega)
  have d1 : ∀ W', (Op.stringOp .add (⟨EA.toArray⟩ ++ ⟨#[32]⟩ ++ ⟨EH.toArray⟩ : ByteArray) (⟨#[32]⟩ ++ ⟨EP.toArray⟩)).run Tryz.prog W' = .ok (.string ((⟨EA.toArray⟩ ++ ⟨#[32]⟩ ++ ⟨EH.toArray⟩ : ByteArray) ++ (⟨#[32]⟩ ++ ⟨EP.toArray⟩))) W' := fun W' => run_string_add_sum W' _ _ (by simp [ByteArray.size]; omega)
  have d2 : ∀ W', (Op.stringOp .add (⟨EH.toArray⟩ : ByteArray) (⟨#[32]⟩ ++ ⟨EP.toArray⟩)).run Tryz.prog W' = .ok (.string ((⟨EH.toArray⟩ : ByteArray) ++ (⟨#[32]⟩ ++ ⟨EP.toArray⟩))) W' := fun W' => run_string_add_sum W' _ _ (by simp [ByteArray.size]; omega)
  obtain ⟨z, hz⟩ : ∃ z, A.isEmpty = z := ⟨_, rfl⟩
  obtain ⟨p, hp⟩ : ∃ p, P.isEmpty = p := ⟨_, rfl⟩
  have hfin : Ds.cite fs = (if z = true then [] else EA ++ [32]) ++ EH ++ (if p = true then [] else [32] ++ EP) := by
    have hzA : (A = []) = (A.isEmpty = true) := by simp
    have hzP : (P = []) = (P.isEmpty = true) := by simp
    rw [← HCT.out, HA.out, HH.out, HP.out, HEA.out, HEH.out, HEP.out]
    simp only [hzA, hzP, hz, hp]
  have HFIN := Lib.hid hfin; clear hfin
  have hA1 : z = false → A ≠ [] := fun e1 e2 => by rw [e1, e2] at hz; cases hz
  have hP1 : p = false → P ≠ [] := fun e1 e2 => by rw [e1, e2] at hp; cases hp
  have HA1 := Lib.hid hA1; clear hA1
  have HP1 := Lib.hid hP1; clear hP1
  cases z <;> cases p
  all_goals
    go_enter Tryz.func15, Tryz.ntmps15
    go_wp2_with (first
      | (go_at_call 35; refine (r25_Heading_c fs a c id ver kind lang _ hS HK.out hn).mono ?_; rintro e w1 ⟨rfl, hb1⟩; rw [HH.out]; clear hW; replace hbc := Tx.step hbc hb1; replace hS := hS.below hb1; replace c0 := cell_later hb1 c0; replace c1 := cell_later hb1 c1; replace c2 := cell_later hb1 c2; replace c3 := cell_later hb1 c3; replace c4 := cell_later hb1 c4; clear hb1)
      | (go_at_call 36; refine (r08_AuthorO_c fs a c id ver kind lang _ hS HK.out hn).mono ?_; rintro e w1 ⟨rfl, hb1⟩; rw [HA.out]; replace hbc := Tx.step hbc hb1; replace hS := hS.below hb1; replace c0 := cell_later hb1 c0; replace c1 := cell_later hb1 c1; replace c2 := cell_later hb1 c2; replace c3 := cell_later hb1 c3; replace c4 := cell_later hb1 c4; clear hb1)
      | (go_at_call 43; refine (r25_Publication_c fs a c id ver kind lang _ hS HG.out).mono ?_; rintro e w1 ⟨rfl, hb1⟩; rw [HPR.out]; replace hbc := Tx.step hbc hb1; replace hS := hS.below hb1; replace c0 := cell_later hb1 c0; replace c1 := cell_later hb1 c1; replace c2 := cell_later hb1 c2; replace c3 := cell_later hb1 c3; replace c4 := cell_later hb1 c4; clear hb1)
      | (go_at_call 42; (with_reducible refine (r25_Ended_c H _ HNE.out (by omega)).mono ?_); rintro e w1 ⟨rfl, rfl⟩; rw [HEH.out])
      | (go_at_call 42; (with_reducible refine (r25_Ended_c A _ (by first | exact HA1.out rfl | simpa using HA1.out) (by omega)).mono ?_); rintro e w1 ⟨rfl, rfl⟩; rw [HEA.out])
      | (go_at_call 42; (with_reducible refine (r25_Ended_c P _ (by first | exact HP1.out rfl | simpa using HP1.out) (by omega)).mono ?_); rintro e w1 ⟨rfl, rfl⟩; rw [HEP.out]))
    go_ret
    refine ⟨Tx.rets ?_, hbc⟩
    rw [HFIN.out]
    first | rfl | (simp; done) | (simp [Tx.bcat]; done)
end Go.Proofs.YtccbadbfijkaeaaGreatDoor
