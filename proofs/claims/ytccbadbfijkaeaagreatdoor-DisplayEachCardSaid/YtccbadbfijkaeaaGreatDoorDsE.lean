/- Layer 25: Cite: what the program's call returns. -/
import Derived.Test.YtccbadbfijkaeaaGreatDoorDsD
import Derived.Deep.RegionHeld3
namespace Go.Proofs.YtccbadbfijkaeaaGreatDoor
open Go.RowKit
set_option maxRecDepth 100000

namespace Ds
def citeL (xs : List (List UInt8)) : List (List UInt8) := (xs.filter fun l => l != []).map ended
theorem citeL_take {xs : List (List UInt8)} {k : Nat} {X : List UInt8} (h : xs[k]? = some X) : citeL (xs.take (k + 1)) = citeL (xs.take k) ++ (if X = [] then [] else [ended X]) := by
  unfold citeL
  rw [List.take_add_one, h]
  simp only [Option.toList, List.filter_append, List.map_append]
  congr 1
  by_cases hX : X = []
  · simp [hX]
  · simp [hX]
theorem ended_suffix {X : List UInt8} {b : Bool} (h : Lib.hasSuffix X [46] = b) : ended X = if b = true then X else X ++ [46] := by
  unfold ended
  have e : Lib.hasSuffix X [46] = true ↔ X.getLast? = some 46 := by
    unfold Lib.hasSuffix
    rw [List.isSuffixOf_iff_suffix]
    constructor
    · rintro ⟨t, ht⟩
      rw [← ht]
      simp
    · intro hl
      rw [List.getLast?_eq_some_iff] at hl
      obtain ⟨t, ht⟩ := hl
      exact ⟨t, ht.symm⟩
  rw [h] at e
  cases b with
  | true => rw [if_pos (e.1 rfl), if_pos rfl]
  | false => rw [if_neg (fun h9 => by have := e.2 h9; cases this), if_neg (by simp)]
theorem ended_le (X : List UInt8) : (ended X).length ≤ X.length + 1 := by
  unfold ended
  split
  · omega
  · simp
theorem cite_le {fs : List Rc.Fl} {A H P : List UInt8} (h1 : A.length ≤ 400000000) (h2 : H.length ≤ 400000000) (h3 : P.length ≤ 400000000) (e : citeParts fs = citeL [A, H, P]) : (Lib.join (citeParts fs) [32]).length ≤ 5000000000 := by
  have hl : (citeParts fs).length ≤ 3 := by
    rw [e]; unfold citeL
    rw [List.length_map]
    exact Nat.le_trans (List.length_filter_le _ _) (by simp)
  have := Rc.join_le (citeParts fs) [32] 400000001 (fun x hx => by
    rw [e] at hx
    unfold citeL at hx
    obtain ⟨y, hy, rfl⟩ := List.mem_map.1 hx
    have hm := (List.mem_filter.1 hy).1
    have hle := ended_le y
    simp at hm
    rcases hm with rfl | rfl | rfl <;> omega)
  have h4 : (citeParts fs).length * (400000001 + ([32] : List UInt8).length) ≤ 3 * (400000001 + 1) := Nat.mul_le_mul hl (by simp)
  omega
end Ds

set_option maxHeartbeats 3200000 in
theorem Cite_c (fs : List Rc.Fl) (a : Option Addr) (c : Nat) (id ver kind : Int) (lang : ByteArray) (w : World) (hG : G w) (h : Rc.FldA w a c fs) (hg : ∀ f ∈ fs, Rc.Gd f) :
    Calls Tryz.prog 14 #[.agg #[.int .i64 id, .int .i64 ver, .int .i64 kind, .string lang, .slice a fs.length c]] w fun e w' => e = .returned (.string ⟨(Ds.cite fs).toArray⟩) ∧ Below w.heap.size w w' := by
  obtain ⟨i0, hi0, hz0, hz1, hz2⟩ := info_parts info_str
  obtain ⟨W, hW⟩ : ∃ W, w.alloc (.cells #[.int .i64 id, .int .i64 ver, .int .i64 kind, .string lang, .slice a fs.length c] 24) = W := ⟨_, rfl⟩
  have hB : Below w.heap.size w W := by rw [← hW]; exact Tx.newb _ _
  have s0 : W.cell? ⟨w.heap.size, 0, none⟩ = some (.int .i64 id) := by rw [← hW]; simp
  have s1 : W.cell? ⟨w.heap.size, 1, none⟩ = some (.int .i64 ver) := by rw [← hW]; simp
  have s2 : W.cell? ⟨w.heap.size, 2, none⟩ = some (.int .i64 kind) := by rw [← hW]; simp
  have s3 : W.cell? ⟨w.heap.size, 3, none⟩ = some (.string lang) := by rw [← hW]; simp
  have s4 : W.cell? ⟨w.heap.size, 4, none⟩ = some (.slice a fs.length c) := by rw [← hW]; simp
  have h1 := h.below hB
  have hG1 := hG.below hB
  have HW := Lib.hid hW; clear hW
  have la := Ds.author_le hg
  have lh := Ds.heading_le hg
  have lp : (Ds.publ fs).length ≤ 200000010 := by rw [Ds.publ_of rfl rfl]; exact Ds.publ_le (Ds.publisher_le hg) (Ds.itoa_year_le _ (Ds.year_le fs))
  have HG := Lib.hid hg; clear hg
  obtain ⟨A, hA⟩ : ∃ A, Rc.author fs = A := ⟨_, rfl⟩
  obtain ⟨H, hH⟩ : ∃ H, Ds.heading fs = H := ⟨_, rfl⟩
  obtain ⟨P, hP⟩ : ∃ P, Ds.publ fs = P := ⟨_, rfl⟩
  have hcp : Ds.citeParts fs = Ds.citeL [A, H, P] := by rw [← hA, ← hH, ← hP]; rfl
  rw [hA] at la
  rw [hH] at lh
  rw [hP] at lp
  have hcl := Ds.cite_le (by omega) lh (by omega) hcp
  have HA := Lib.hid hA; clear hA
  have HH := Lib.hid hH; clear hH
  have HP := Lib.hid hP; clear hP
  have HC := Lib.hid hcp; clear hcp
  go_enter Tryz.func14, Tryz.ntmps14
  go_wp2
  rw [HW.out]
  go_region_held3 (fun w' => Below W.heap.size W w' ∧ w'.cell? ⟨w.heap.size, 0, none⟩ = some (.int .i64 id) ∧ w'.cell? ⟨w.heap.size, 1, none⟩ = some (.int .i64 ver) ∧ w'.cell? ⟨w.heap.size, 2, none⟩ = some (.int .i64 kind) ∧ w'.cell? ⟨w.heap.size, 3, none⟩ = some (.string lang) ∧ w'.cell? ⟨w.heap.size, 4, none⟩ = some (.slice a fs.length c))
    (first
      | exact ⟨(Below.refl _ _).drew, s0, s1, s2, s3, s4⟩
      | (go_split_ands; exact ⟨Tx.step (by assumption) hbc, cell_later hbc (by assumption), cell_later hbc (by assumption), cell_later hbc (by assumption), cell_later hbc (by assumption), cell_later hbc (by assumption)⟩)
      | (go_split_ands; exact ⟨Tx.step (by assumption) (Tx.newb _ _), cell_later (Tx.newb _ _) (by assumption), cell_later (Tx.newb _ _) (by assumption), cell_later (Tx.newb _ _) (by assumption), cell_later (Tx.newb _ _) (by assumption), cell_later (Tx.newb _ _) (by assumption)⟩))
    (first
      | (go_split_ands; go_at_call 32; refine (record_Author_c fs a c id ver kind lang _ (h1.below (by assumption))).mono ?_; rintro e w1 ⟨rfl, hbc⟩; rw [HA.out])
      | (go_split_ands; go_at_call 31; refine (title_c fs a c id ver kind lang _ (h1.below (by assumption)) HG.out).mono ?_; rintro e w1 ⟨rfl, hbc⟩; rw [HH.out])
      | (go_split_ands; go_at_call 39; refine (published_c fs a c id ver kind lang _ (hG1.below (by assumption)) (h1.below (by assumption)) HG.out).mono ?_; rintro e w1 ⟨rfl, hbc⟩; rw [HP.out]))
  go_split_ands
  obtain ⟨W2, hW2⟩ : ∃ W2, w1.alloc (.cells #[.string ⟨A.toArray⟩, .string ⟨H.toArray⟩, .string ⟨P.toArray⟩] 9) = W2 := ⟨_, rfl⟩
  have hbw : Below W.heap.size W (w1.alloc (.cells #[.string ⟨A.toArray⟩, .string ⟨H.toArray⟩, .string ⟨P.toArray⟩] 9)) := by assumption
  have t0 : W2.cell? ⟨w1.heap.size, 0, none⟩ = some (.string ⟨A.toArray⟩) := by rw [← hW2]; simp
  have t1 : W2.cell? ⟨w1.heap.size, 1, none⟩ = some (.string ⟨H.toArray⟩) := by rw [← hW2]; simp
  have t2 : W2.cell? ⟨w1.heap.size, 2, none⟩ = some (.string ⟨P.toArray⟩) := by rw [← hW2]; simp
  rw [hW2] at hbw ⊢
  go_wp2
  clear hW2
  go_loopw [3, 5, 14] (fun v _ i wr => ∃ (k : Nat) (L : List ByteArray), k ≤ 3 ∧ i = .int .i64 k ∧ Hid (L = (Ds.citeL ([A, H, P].take k)).map Ds.mk) ∧ L.length ≤ k ∧ wr.ownsRow W2.heap.size 9 1 v L.length (L.map Value.string) ∧ Below W2.heap.size W2 wr) (fun _ _ i _ => 3 - (intOf i).toNat)
  case atStart => exact ⟨0, [], by omega, rfl, Lib.hid rfl, Nat.le_refl _, World.ownsRow_nil _ _ _ _, Below.refl _ _⟩
  case round =>
    obtain ⟨k, L, hk, rfl, hL, hLk, hown, hb⟩ := hrel
    replace t0 := cell_later hb t0
    replace t1 := cell_later hb t1
    replace t2 := cell_later hb t2
    have hbs := hb.size
    by_cases hlt : k < 3
    · obtain ⟨X, hX, hXk, hXl⟩ : ∃ X : List UInt8, wr.cell? ⟨w1.heap.size, k, none⟩ = some (.string ⟨X.toArray⟩) ∧ ([A, H, P] : List (List UInt8))[k]? = some X ∧ X.length ≤ 400000000 := by
        rcases (show k = 0 ∨ k = 1 ∨ k = 2 by omega) with rfl | rfl | rfl
        · exact ⟨_, t0, rfl, by omega⟩
        · exact ⟨_, t1, rfl, by omega⟩
        · exact ⟨_, t2, rfl, by omega⟩
      clear t0 t1 t2
      have hft := congrArg (List.map Ds.mk) (Ds.citeL_take hXk)
      rw [List.map_append, ← hL.out] at hft
      clear hXk
      by_cases hX0 : X = []
      · subst hX0
        rw [if_pos rfl, List.map_nil, List.append_nil] at hft
        have HT := Lib.hid hft; clear hft
        go_wp2
        go_roundw
        case rel => exact ⟨k + 1, L, by omega, by go_num, Lib.hid HT.out.symm, by omega, hown, hb⟩
        case measure => simp [intOf]; omega
      · have hXe : X.isEmpty = false := by simpa using hX0
        rw [if_neg hX0, List.map_cons, List.map_nil] at hft
        clear hX0
        obtain ⟨B, hB2⟩ : ∃ B, Lib.hasSuffix X [46] = B := ⟨_, rfl⟩
        have he := Ds.ended_suffix hB2
        have HB := Lib.hid hB2; clear hB2
        cases B
        · rw [if_neg (by simp)] at he
          rw [he] at hft
          have HT := Lib.hid hft; clear hft he
          obtain ⟨a1, -⟩ := Tx.adds_ok Tryz.prog [⟨#[46]⟩] ⟨X.toArray⟩ (by simp only [List.map_cons, List.map_nil, List.sum_cons, List.sum_nil, Tx.size_mk]; simp; omega)
          go_wp2_with (first
            | (go_at_call 40; refine (Tryz.strings_HasSuffix ⟨X.toArray⟩ ⟨#[46]⟩ _ (by rw [Tx.size_mk]; omega)).mono ?_; rintro e w4 ⟨rfl, rfl⟩; rw [show Lib.hasSuffix (⟨X.toArray⟩ : ByteArray).data.toList (⟨#[46]⟩ : ByteArray).data.toList = _ from HB.out])
            | (at_builtin; refine wpList_append_own _ rfl _ _ 29 rfl W2.heap.size 9 i0 (.string ⟨#[]⟩) 1 16 Tryz.underlying29 hi0 hz0 hz1 hz2 rfl (by decide) _ L.length _ rfl (hown.alloc _) ⟨_, 0, none⟩ 1 1 [.string (⟨X.toArray⟩ ++ ⟨#[46]⟩)] rfl rfl (Tx.cell_one_at _ _ (by first | rfl | simp) _ _) (by simp [Value.oneCell']) (by unfold maxLen; omega) (by omega) (by simp; omega) ?_; intro v' w5 hown5 hg5 hnil5))
          have hb5 : Below W2.heap.size W2 w5 := (hb.alloc hb.size _).grown hg5 (by simp; omega) (fun j hj => (hown.lt j hj).1)
          go_roundw
          case rel => exact ⟨k + 1, L ++ [⟨(X ++ [46]).toArray⟩], by omega, by go_num, Lib.hid HT.out.symm, by simp; omega, by simpa [Tx.bcat] using hown5, hb5⟩
          case measure => simp [intOf]; omega
  
        · rw [if_pos rfl] at he
          rw [he] at hft
          have HT := Lib.hid hft; clear hft he
          go_wp2_with (first
            | (go_at_call 40; refine (Tryz.strings_HasSuffix ⟨X.toArray⟩ ⟨#[46]⟩ _ (by rw [Tx.size_mk]; omega)).mono ?_; rintro e w4 ⟨rfl, rfl⟩; rw [show Lib.hasSuffix (⟨X.toArray⟩ : ByteArray).data.toList (⟨#[46]⟩ : ByteArray).data.toList = _ from HB.out])
            | (at_builtin; refine wpList_append_own _ rfl _ _ 29 rfl W2.heap.size 9 i0 (.string ⟨#[]⟩) 1 16 Tryz.underlying29 hi0 hz0 hz1 hz2 rfl (by decide) _ L.length _ rfl (hown.alloc _) ⟨_, 0, none⟩ 1 1 [.string ⟨X.toArray⟩] rfl rfl (Tx.cell_one_at _ _ (by first | rfl | simp) _ _) (by simp [Value.oneCell']) (by unfold maxLen; omega) (by omega) (by simp; omega) ?_; intro v' w5 hown5 hg5 hnil5))
          have hb5 : Below W2.heap.size W2 w5 := (hb.alloc hb.size _).grown hg5 (by simp; omega) (fun j hj => (hown.lt j hj).1)
          go_roundw
          case rel => exact ⟨k + 1, L ++ [⟨(X).toArray⟩], by omega, by go_num, Lib.hid HT.out.symm, by simp; omega, by simpa [Tx.bcat] using hown5, hb5⟩
          case measure => simp [intOf]; omega
    · obtain rfl : k = 3 := by omega
      have hL2 : L = (Ds.citeParts fs).map Ds.mk := by rw [hL.out, HC.out]; rfl
      have hj : Lib.join (L.map (·.data.toList)) [32] = Ds.cite fs := by
        rw [hL2, List.map_map]
        unfold Ds.cite
        congr 1
        exact List.map_id _
      have HJ := Lib.hid hj; clear hj hL2
      have hcl2 : (Ds.cite fs).length ≤ 5000000000 := hcl
      go_wp2_with (go_at_call 41; refine (Join_c _ L ⟨#[32]⟩ _ (SL.of_own hown rfl) (by rw [show Lib.join (L.map (·.data.toList)) (⟨#[32]⟩ : ByteArray).data.toList = Ds.cite fs from HJ.out]; omega) (by omega)).mono ?_; rintro e w9 ⟨rfl, hb9⟩; rw [show Lib.join (L.map (·.data.toList)) (⟨#[32]⟩ : ByteArray).data.toList = Ds.cite fs from HJ.out])
      go_ret
      exact ⟨rfl, hB.trans ((hbw.trans ((Tx.step hb hb9).mono hbw.size)).mono hB.size)⟩
end Go.Proofs.YtccbadbfijkaeaaGreatDoor
