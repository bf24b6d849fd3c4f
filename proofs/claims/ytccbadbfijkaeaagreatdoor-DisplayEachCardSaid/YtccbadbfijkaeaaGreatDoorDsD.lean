/- Layer 25: published: what the program's call returns. -/
import Derived.Test.YtccbadbfijkaeaaGreatDoorDsC
namespace Go.Proofs.YtccbadbfijkaeaaGreatDoor
open Go.RowKit
set_option maxRecDepth 100000

set_option maxHeartbeats 800000 in
theorem pub1_c (f : Rc.Fl) (sa : Option Addr) (sc : Nat) (w : World) :
    Calls Tryz.prog 71 #[.agg #[.string f.tag, .string f.ind, .slice sa f.subs.length sc, .int .i64 f.auth]] w fun e w' => e = .returned (.bool (Rc.pubTag f)) ∧ Below w.heap.size w w' := by
  cases h0 : Rc.tagIs [50, 54, 48] f <;> cases h4 : Rc.tagIs [50, 54, 52] f
  all_goals
    obtain ⟨e0, e4, ep⟩ := Rc.pub_eq f h0 h4
    have HP := Lib.hid ep; clear ep h0 h4
    go_enter Tryz.func71, Tryz.ntmps71
    go_wp2
    go_ret
    exact ⟨Tx.retb (by rw [HP.out]; rfl), Tx.newb _ _⟩

set_option maxHeartbeats 800000 in
theorem idxFld_c (fs : List Rc.Fl) (a : Option Addr) (c : Nat) (w : World) (h : Rc.FldA w a c fs) :
    Calls Tryz.prog 70 #[.slice a fs.length c, .func (.func 71) #[] #[]] w fun e w' => e = .returned (.int .i64 (Rc.idxF Rc.pubTag 0 fs)) ∧ Below w.heap.size w w' := by
  have hcap := h.cap
  have hmax := h.max
  go_enter Tryz.func70, Tryz.ntmps70
  go_wp2
  go_loopw [5, 8] (fun _ i wr => ∃ (k : Nat), k ≤ fs.length ∧ i = .int .i64 k ∧ Hid (Rc.idxF Rc.pubTag k (fs.drop k) = Rc.idxF Rc.pubTag 0 fs) ∧ Below w.heap.size w wr) (fun _ i _ => fs.length - (intOf i).toNat)
  case atStart => exact ⟨0, Nat.zero_le _, rfl, Lib.hid (by rw [List.drop_zero]), Below.refl _ _⟩
  case round =>
    obtain ⟨k, hk, rfl, hI, hb⟩ := hrel
    by_cases hlt : k < fs.length
    · obtain ⟨f, hf⟩ : ∃ f, fs[k]? = some f := ⟨_, List.getElem?_eq_getElem hlt⟩
      obtain ⟨b, o, sa, sc, rfl, hbl, c0, c1, c2, c3, hsub⟩ := h.get hf
      replace c0 := cell_later hb c0
      replace c1 := cell_later hb c1
      replace c2 := cell_later hb c2
      replace c3 := cell_later hb c3
      have hst := Rc.idxF_step Rc.pubTag hf
      rw [hI.out] at hst
      have hmx : maxLen = 9223372036854775807 := rfl
      cases hq : Rc.pubTag f with
      | true =>
        simp only [hq, if_true] at hst
        have HS := Lib.hid hst; clear hst
        have HQ := Lib.hid hq; clear hq
        go_wp2_with (go_at_call 71; refine (pub1_c f sa sc _).mono ?_; rintro e w1 ⟨rfl, hb1⟩; rw [HQ.out])
        go_ret
        exact ⟨Tx.ret1 HS.out.symm, Tx.step hb hb1⟩
      | false =>
        simp only [hq, Bool.false_eq_true, if_false] at hst
        have HS := Lib.hid hst; clear hst
        have HQ := Lib.hid hq; clear hq
        go_wp2_with (go_at_call 71; refine (pub1_c f sa sc _).mono ?_; rintro e w1 ⟨rfl, hb1⟩; rw [HQ.out])
        go_roundw
        case rel => exact ⟨k + 1, by omega, by go_num, Lib.hid HS.out.symm, Tx.step hb hb1⟩
        case measure => simp [intOf]; omega
    · obtain rfl : k = fs.length := by omega
      have hI2 := hI.out
      rw [List.drop_length] at hI2
      have HI := Lib.hid hI2; clear hI2 hI
      go_wp2
      go_ret
      exact ⟨Tx.ret1 (by rw [← HI.out]; rfl), hb⟩

namespace Ds
theorem publ_of {fs : List Rc.Fl} {P : List UInt8} {Y : Nat} (hp : publisher fs = P) (hy : Rc.year fs = Y) : publ fs = Lib.join ((if P = [] then [] else [P]) ++ (if Y = 0 then [] else [Lib.itoa (Y : Int)])) [44, 32] := by
  unfold publ publParts
  rw [hp, hy]
theorem publ_le {P : List UInt8} {Y : Nat} (h : P.length ≤ 200000000) (h2 : (Lib.itoa (Y : Int)).length ≤ 4) : (Lib.join ((if P = [] then [] else [P]) ++ (if Y = 0 then [] else [Lib.itoa (Y : Int)])) [44, 32]).length ≤ 200000010 := by
  split <;> split
  all_goals simp [Lib.join, List.intercalate]
  all_goals omega
end Ds

set_option maxHeartbeats 3200000 in
theorem published_c (fs : List Rc.Fl) (a : Option Addr) (c : Nat) (id ver kind : Int) (lang : ByteArray) (w : World) (hG : G w) (h : Rc.FldA w a c fs) (hg : ∀ f ∈ fs, Rc.Gd f) :
    Calls Tryz.prog 39 #[.agg #[.int .i64 id, .int .i64 ver, .int .i64 kind, .string lang, .slice a fs.length c]] w fun e w' => e = .returned (.string ⟨(Ds.publ fs).toArray⟩) ∧ Below w.heap.size w w' := by
  obtain ⟨i0, hi0, hz0, hz1, hz2⟩ := info_parts info_str
  have hcap := h.cap
  have hmx : maxLen = 9223372036854775807 := rfl
  have hmax := h.max
  obtain ⟨W, hW⟩ : ∃ W, w.alloc (.cells #[.int .i64 id, .int .i64 ver, .int .i64 kind, .string lang, .slice a fs.length c] 24) = W := ⟨_, rfl⟩
  have hB : Below w.heap.size w W := by rw [← hW]; exact Tx.newb _ _
  have hlt : w.heap.size < W.heap.size := by rw [← hW]; simp
  have s0 : W.cell? ⟨w.heap.size, 0, none⟩ = some (.int .i64 id) := by rw [← hW]; simp
  have s1 : W.cell? ⟨w.heap.size, 1, none⟩ = some (.int .i64 ver) := by rw [← hW]; simp
  have s2 : W.cell? ⟨w.heap.size, 2, none⟩ = some (.int .i64 kind) := by rw [← hW]; simp
  have s3 : W.cell? ⟨w.heap.size, 3, none⟩ = some (.string lang) := by rw [← hW]; simp
  have s4 : W.cell? ⟨w.heap.size, 4, none⟩ = some (.slice a fs.length c) := by rw [← hW]; simp
  have h1 := h.below hB
  have hG1 := hG.below hB
  have HW := Lib.hid hW; clear hW
  have ly := Ds.year_le fs
  have li := Ds.itoa_year_le _ ly
  have lp := Ds.publisher_le hg
  have hpo := fun P Y hp hy => Ds.publ_of (fs := fs) (P := P) (Y := Y) hp hy
  obtain ⟨Y, hY⟩ : ∃ Y, Rc.year fs = Y := ⟨_, rfl⟩
  rw [hY] at ly li
  cases hidx : fs.find? Rc.pubTag with
  | none =>
    have hI := Rc.idxF_none fs 0 hidx
    have hpub : Ds.publisher fs = [] := by unfold Ds.publisher; rw [hidx]
    have HI := Lib.hid hI; clear hI hidx
    have HG := Lib.hid hg; clear hg
    by_cases hy0 : Y = 0
    · have hlp := Ds.publ_le (P := []) (Y := Y) (by simp) li
      rw [← hpo _ _ hpub hY] at hlp
      subst hy0
      have hj : Lib.join (([] : List ByteArray).map (·.data.toList)) [44, 32] = Ds.publ fs := by rw [hpo _ _ hpub hY]; simp [*]
      have HJ := Lib.hid hj; clear hj
      have HY := Lib.hid hY; clear hY
      clear hpo hpub
      go_enter Tryz.func39, Tryz.ntmps39
      go_wp2_with (first
        | (go_at_call 70; rw [HW.out]; refine (idxFld_c fs _ c _ h1).mono ?_; rintro e w1 ⟨rfl, hb1⟩; rw [HI.out]; have s0a := cell_later hb1 s0; have s1a := cell_later hb1 s1; have s2a := cell_later hb1 s2; have s3a := cell_later hb1 s3; have s4a := cell_later hb1 s4)
        | (go_at_call 33; refine (record_Year_c fs _ c id ver kind lang _ (h1.below hb1) HG.out).mono ?_; rintro e w4 ⟨rfl, hb4⟩; rw [HY.out]; have hb14 := Tx.step hb1 hb4)
        | (go_at_call 41; refine (Join_c _ [] ⟨#[44, 32]⟩ _ (.inl ⟨rfl, none, 0, rfl⟩) (by rw [show Lib.join (([] : List ByteArray).map (·.data.toList)) (⟨#[44, 32]⟩ : ByteArray).data.toList = Ds.publ fs from HJ.out]; omega) (by simp)).mono ?_; rintro e w9 ⟨rfl, hb9⟩; rw [show Lib.join (([] : List ByteArray).map (·.data.toList)) (⟨#[44, 32]⟩ : ByteArray).data.toList = Ds.publ fs from HJ.out]))
      go_ret
      exact ⟨rfl, hB.trans ((Tx.step hb14 hb9).mono hB.size)⟩
    · have hlp := Ds.publ_le (P := []) (Y := Y) (by simp) li
      rw [← hpo _ _ hpub hY] at hlp
      have hyn : ((Y : Int) != 0) = true := by simp; omega
      have hj : Lib.join (([⟨(Lib.itoa (Y : Int)).toArray⟩] : List ByteArray).map (·.data.toList)) [44, 32] = Ds.publ fs := by rw [hpo _ _ hpub hY]; simp [*]
      have HJ := Lib.hid hj; clear hj
      have HY := Lib.hid hY; clear hY
      clear hpo hpub
      go_enter Tryz.func39, Tryz.ntmps39
      go_wp2_with (first
        | (go_at_call 70; rw [HW.out]; refine (idxFld_c fs _ c _ h1).mono ?_; rintro e w1 ⟨rfl, hb1⟩; rw [HI.out]; have s0a := cell_later hb1 s0; have s1a := cell_later hb1 s1; have s2a := cell_later hb1 s2; have s3a := cell_later hb1 s3; have s4a := cell_later hb1 s4)
        | (go_at_call 33; refine (record_Year_c fs _ c id ver kind lang _ (h1.below hb1) HG.out).mono ?_; rintro e w4 ⟨rfl, hb4⟩; rw [HY.out]; have hb14 := Tx.step hb1 hb4)
        | (go_at_call 34; refine (Itoa_c _ _ (by omega) (by omega) (hG1.below hb14)).mono ?_; rintro e w5 ⟨rfl, hb5⟩; have hb15 := Tx.step hb14 hb5)
        | (at_builtin; (refine wpList_append_own _ rfl (.tmp 28) (.tmp 31) 29 rfl W.heap.size 9 i0 (.string ⟨#[]⟩) 1 16 Tryz.underlying29 hi0 hz0 hz1 hz2 rfl (by decide) _ 0 _ rfl (((World.ownsRow_nil _ W.heap.size 9 1)).alloc _) ⟨_, 0, none⟩ 1 1 [.string ⟨(Lib.itoa (Y : Int)).toArray⟩] rfl rfl (Tx.cell_one_at _ _ (by first | rfl | simp) _ _) (by simp [Value.oneCell']) (by unfold maxLen; omega) (by omega) (by have := hb15.size; simp; omega) ?_); intro v_w6 w6 hown_w6 hg_w6 hnil_w6; have hb6 : Below W.heap.size W w6 := (hb15.alloc hb15.size _).grown hg_w6 (by have := hb15.size; simp; omega) (fun j hj => (((World.ownsRow_nil W W.heap.size 9 1)).lt j hj).1))
        | (go_at_call 41; refine (Join_c v_w6 [⟨(Lib.itoa (Y : Int)).toArray⟩] ⟨#[44, 32]⟩ _ (SL.of_own hown_w6 rfl) (by rw [show Lib.join (([⟨(Lib.itoa (Y : Int)).toArray⟩] : List ByteArray).map (·.data.toList)) (⟨#[44, 32]⟩ : ByteArray).data.toList = Ds.publ fs from HJ.out]; omega) (by simp)).mono ?_; rintro e w9 ⟨rfl, hb9⟩; rw [show Lib.join (([⟨(Lib.itoa (Y : Int)).toArray⟩] : List ByteArray).map (·.data.toList)) (⟨#[44, 32]⟩ : ByteArray).data.toList = Ds.publ fs from HJ.out]))
      go_ret
      exact ⟨rfl, hB.trans ((Tx.step hb6 hb9).mono hB.size)⟩
  | some f =>
    obtain ⟨j, hI, hj⟩ := Rc.idxF_some fs 0 hidx
    rw [Nat.zero_add] at hI
    have hgf := hg f (List.mem_of_getElem? hj)
    obtain ⟨P, hP⟩ : ∃ P, Rc.plain f.subs [98] = P := ⟨_, rfl⟩
    have hpub : Ds.publisher fs = P := by unfold Ds.publisher; rw [hidx]; exact hP
    have hjl : j < fs.length := (List.getElem?_eq_some_iff.1 hj).1
    obtain ⟨b, o, sa, sc, rfl, hbl, c0, c1, c2, c3, hsub⟩ := h1.get hj
    have HI := Lib.hid hI; clear hI hidx
    have HG := Lib.hid hg; clear hg
    have HGF := Lib.hid hgf; clear hgf
    rw [hpub] at lp
    have hlp := Ds.publ_le (P := P) (Y := Y) lp li
    rw [← hpo _ _ hpub hY] at hlp
    have HPL := Lib.hid hP; clear hP
    by_cases hP0 : P = [] <;> by_cases hy0 : Y = 0
    · subst hP0 hy0
      have hj : Lib.join (([] : List ByteArray).map (·.data.toList)) [44, 32] = Ds.publ fs := by rw [hpo _ _ hpub hY]; simp [*]
      have HJ := Lib.hid hj; clear hj
      have HY := Lib.hid hY; clear hY
      clear hpo hpub
      go_enter Tryz.func39, Tryz.ntmps39
      go_wp2_with (first
        | (go_at_call 70; rw [HW.out]; refine (idxFld_c fs _ c _ h1).mono ?_; rintro e w1 ⟨rfl, hb1⟩; rw [HI.out]; have s0a := cell_later hb1 s0; have s1a := cell_later hb1 s1; have s2a := cell_later hb1 s2; have s3a := cell_later hb1 s3; have s4a := cell_later hb1 s4; have e0 := cell_later hb1 c0; have e1 := cell_later hb1 c1; have e2 := cell_later hb1 c2; have e3 := cell_later hb1 c3)
        | (go_at_call 45; refine (field_Plain_c f sa sc ⟨#[98]⟩ _ (hsub.below hb1) HGF.out).mono ?_; rintro e w2 ⟨rfl, hb2⟩; rw [show Rc.plain f.subs (⟨#[98]⟩ : ByteArray).data.toList = [] from HPL.out]; have hb12 := Tx.step hb1 hb2; have s0b := cell_later hb12 s0; have s1b := cell_later hb12 s1; have s2b := cell_later hb12 s2; have s3b := cell_later hb12 s3; have s4b := cell_later hb12 s4)
        | (go_at_call 33; refine (record_Year_c fs _ c id ver kind lang _ (h1.below hb12) HG.out).mono ?_; rintro e w4 ⟨rfl, hb4⟩; rw [HY.out]; have hb14 := Tx.step hb12 hb4)
        | (go_at_call 41; refine (Join_c _ [] ⟨#[44, 32]⟩ _ (.inl ⟨rfl, none, 0, rfl⟩) (by rw [show Lib.join (([] : List ByteArray).map (·.data.toList)) (⟨#[44, 32]⟩ : ByteArray).data.toList = Ds.publ fs from HJ.out]; omega) (by simp)).mono ?_; rintro e w9 ⟨rfl, hb9⟩; rw [show Lib.join (([] : List ByteArray).map (·.data.toList)) (⟨#[44, 32]⟩ : ByteArray).data.toList = Ds.publ fs from HJ.out]))
      go_ret
      exact ⟨rfl, hB.trans ((Tx.step hb14 hb9).mono hB.size)⟩
    · subst hP0
      have hyn : ((Y : Int) != 0) = true := by simp; omega
      have hj : Lib.join (([⟨(Lib.itoa (Y : Int)).toArray⟩] : List ByteArray).map (·.data.toList)) [44, 32] = Ds.publ fs := by rw [hpo _ _ hpub hY]; simp [*]
      have HJ := Lib.hid hj; clear hj
      have HY := Lib.hid hY; clear hY
      clear hpo hpub
      go_enter Tryz.func39, Tryz.ntmps39
      go_wp2_with (first
        | (go_at_call 70; rw [HW.out]; refine (idxFld_c fs _ c _ h1).mono ?_; rintro e w1 ⟨rfl, hb1⟩; rw [HI.out]; have s0a := cell_later hb1 s0; have s1a := cell_later hb1 s1; have s2a := cell_later hb1 s2; have s3a := cell_later hb1 s3; have s4a := cell_later hb1 s4; have e0 := cell_later hb1 c0; have e1 := cell_later hb1 c1; have e2 := cell_later hb1 c2; have e3 := cell_later hb1 c3)
        | (go_at_call 45; refine (field_Plain_c f sa sc ⟨#[98]⟩ _ (hsub.below hb1) HGF.out).mono ?_; rintro e w2 ⟨rfl, hb2⟩; rw [show Rc.plain f.subs (⟨#[98]⟩ : ByteArray).data.toList = [] from HPL.out]; have hb12 := Tx.step hb1 hb2; have s0b := cell_later hb12 s0; have s1b := cell_later hb12 s1; have s2b := cell_later hb12 s2; have s3b := cell_later hb12 s3; have s4b := cell_later hb12 s4)
        | (go_at_call 33; refine (record_Year_c fs _ c id ver kind lang _ (h1.below hb12) HG.out).mono ?_; rintro e w4 ⟨rfl, hb4⟩; rw [HY.out]; have hb14 := Tx.step hb12 hb4)
        | (go_at_call 34; refine (Itoa_c _ _ (by omega) (by omega) (hG1.below hb14)).mono ?_; rintro e w5 ⟨rfl, hb5⟩; have hb15 := Tx.step hb14 hb5)
        | (at_builtin; (refine wpList_append_own _ rfl (.tmp 28) (.tmp 31) 29 rfl W.heap.size 9 i0 (.string ⟨#[]⟩) 1 16 Tryz.underlying29 hi0 hz0 hz1 hz2 rfl (by decide) _ 0 _ rfl (((World.ownsRow_nil _ W.heap.size 9 1)).alloc _) ⟨_, 0, none⟩ 1 1 [.string ⟨(Lib.itoa (Y : Int)).toArray⟩] rfl rfl (Tx.cell_one_at _ _ (by first | rfl | simp) _ _) (by simp [Value.oneCell']) (by unfold maxLen; omega) (by omega) (by have := hb15.size; simp; omega) ?_); intro v_w6 w6 hown_w6 hg_w6 hnil_w6; have hb6 : Below W.heap.size W w6 := (hb15.alloc hb15.size _).grown hg_w6 (by have := hb15.size; simp; omega) (fun j hj => (((World.ownsRow_nil W W.heap.size 9 1)).lt j hj).1))
        | (go_at_call 41; refine (Join_c v_w6 [⟨(Lib.itoa (Y : Int)).toArray⟩] ⟨#[44, 32]⟩ _ (SL.of_own hown_w6 rfl) (by rw [show Lib.join (([⟨(Lib.itoa (Y : Int)).toArray⟩] : List ByteArray).map (·.data.toList)) (⟨#[44, 32]⟩ : ByteArray).data.toList = Ds.publ fs from HJ.out]; omega) (by simp)).mono ?_; rintro e w9 ⟨rfl, hb9⟩; rw [show Lib.join (([⟨(Lib.itoa (Y : Int)).toArray⟩] : List ByteArray).map (·.data.toList)) (⟨#[44, 32]⟩ : ByteArray).data.toList = Ds.publ fs from HJ.out]))
      go_ret
      exact ⟨rfl, hB.trans ((Tx.step hb6 hb9).mono hB.size)⟩
    · subst hy0
      have hPe : (!P.isEmpty) = true := by simpa using hP0
      have hj : Lib.join (([⟨P.toArray⟩] : List ByteArray).map (·.data.toList)) [44, 32] = Ds.publ fs := by rw [hpo _ _ hpub hY]; simp [*]
      have HJ := Lib.hid hj; clear hj
      have HY := Lib.hid hY; clear hY
      clear hpo hpub
      go_enter Tryz.func39, Tryz.ntmps39
      go_wp2_with (first
        | (go_at_call 70; rw [HW.out]; refine (idxFld_c fs _ c _ h1).mono ?_; rintro e w1 ⟨rfl, hb1⟩; rw [HI.out]; have s0a := cell_later hb1 s0; have s1a := cell_later hb1 s1; have s2a := cell_later hb1 s2; have s3a := cell_later hb1 s3; have s4a := cell_later hb1 s4; have e0 := cell_later hb1 c0; have e1 := cell_later hb1 c1; have e2 := cell_later hb1 c2; have e3 := cell_later hb1 c3)
        | (go_at_call 45; refine (field_Plain_c f sa sc ⟨#[98]⟩ _ (hsub.below hb1) HGF.out).mono ?_; rintro e w2 ⟨rfl, hb2⟩; rw [show Rc.plain f.subs (⟨#[98]⟩ : ByteArray).data.toList = P from HPL.out]; have hb12 := Tx.step hb1 hb2; have s0b := cell_later hb12 s0; have s1b := cell_later hb12 s1; have s2b := cell_later hb12 s2; have s3b := cell_later hb12 s3; have s4b := cell_later hb12 s4)
        | (at_builtin; (refine wpList_append_own _ rfl (.tmp 20) (.tmp 22) 29 rfl W.heap.size 9 i0 (.string ⟨#[]⟩) 1 16 Tryz.underlying29 hi0 hz0 hz1 hz2 rfl (by decide) _ 0 _ rfl (((World.ownsRow_nil _ W.heap.size 9 1)).alloc _) ⟨_, 0, none⟩ 1 1 [.string ⟨P.toArray⟩] rfl rfl (Tx.cell_one_at _ _ (by first | rfl | simp) _ _) (by simp [Value.oneCell']) (by unfold maxLen; omega) (by omega) (by have := hb12.size; simp; omega) ?_); intro v_w3 w3 hown_w3 hg_w3 hnil_w3; have hb3 : Below W.heap.size W w3 := (hb12.alloc hb12.size _).grown hg_w3 (by have := hb12.size; simp; omega) (fun j hj => (((World.ownsRow_nil W W.heap.size 9 1)).lt j hj).1); have s0c := cell_later hb3 s0; have s1c := cell_later hb3 s1; have s2c := cell_later hb3 s2; have s3c := cell_later hb3 s3; have s4c := cell_later hb3 s4)
        | (go_at_call 33; refine (record_Year_c fs _ c id ver kind lang _ (h1.below hb3) HG.out).mono ?_; rintro e w4 ⟨rfl, hb4⟩; rw [HY.out]; have hb14 := Tx.step hb3 hb4)
        | (go_at_call 41; refine (Join_c v_w3 [⟨P.toArray⟩] ⟨#[44, 32]⟩ _ (SL.of_own (own_below hown_w3 hb4) rfl) (by rw [show Lib.join (([⟨P.toArray⟩] : List ByteArray).map (·.data.toList)) (⟨#[44, 32]⟩ : ByteArray).data.toList = Ds.publ fs from HJ.out]; omega) (by simp)).mono ?_; rintro e w9 ⟨rfl, hb9⟩; rw [show Lib.join (([⟨P.toArray⟩] : List ByteArray).map (·.data.toList)) (⟨#[44, 32]⟩ : ByteArray).data.toList = Ds.publ fs from HJ.out]))
      go_ret
      exact ⟨rfl, hB.trans ((Tx.step hb14 hb9).mono hB.size)⟩
    · have hPe : (!P.isEmpty) = true := by simpa using hP0
      have hyn : ((Y : Int) != 0) = true := by simp; omega
      have hj : Lib.join (([⟨P.toArray⟩, ⟨(Lib.itoa (Y : Int)).toArray⟩] : List ByteArray).map (·.data.toList)) [44, 32] = Ds.publ fs := by rw [hpo _ _ hpub hY]; simp [*]
      have HJ := Lib.hid hj; clear hj
      have HY := Lib.hid hY; clear hY
      clear hpo hpub
      go_enter Tryz.func39, Tryz.ntmps39
      go_wp2_with (first
        | (go_at_call 70; rw [HW.out]; refine (idxFld_c fs _ c _ h1).mono ?_; rintro e w1 ⟨rfl, hb1⟩; rw [HI.out]; have s0a := cell_later hb1 s0; have s1a := cell_later hb1 s1; have s2a := cell_later hb1 s2; have s3a := cell_later hb1 s3; have s4a := cell_later hb1 s4; have e0 := cell_later hb1 c0; have e1 := cell_later hb1 c1; have e2 := cell_later hb1 c2; have e3 := cell_later hb1 c3)
        | (go_at_call 45; refine (field_Plain_c f sa sc ⟨#[98]⟩ _ (hsub.below hb1) HGF.out).mono ?_; rintro e w2 ⟨rfl, hb2⟩; rw [show Rc.plain f.subs (⟨#[98]⟩ : ByteArray).data.toList = P from HPL.out]; have hb12 := Tx.step hb1 hb2; have s0b := cell_later hb12 s0; have s1b := cell_later hb12 s1; have s2b := cell_later hb12 s2; have s3b := cell_later hb12 s3; have s4b := cell_later hb12 s4)
        | (at_builtin; (refine wpList_append_own _ rfl (.tmp 20) (.tmp 22) 29 rfl W.heap.size 9 i0 (.string ⟨#[]⟩) 1 16 Tryz.underlying29 hi0 hz0 hz1 hz2 rfl (by decide) _ 0 _ rfl (((World.ownsRow_nil _ W.heap.size 9 1)).alloc _) ⟨_, 0, none⟩ 1 1 [.string ⟨P.toArray⟩] rfl rfl (Tx.cell_one_at _ _ (by first | rfl | simp) _ _) (by simp [Value.oneCell']) (by unfold maxLen; omega) (by omega) (by have := hb12.size; simp; omega) ?_); intro v_w3 w3 hown_w3 hg_w3 hnil_w3; have hb3 : Below W.heap.size W w3 := (hb12.alloc hb12.size _).grown hg_w3 (by have := hb12.size; simp; omega) (fun j hj => (((World.ownsRow_nil W W.heap.size 9 1)).lt j hj).1); have s0c := cell_later hb3 s0; have s1c := cell_later hb3 s1; have s2c := cell_later hb3 s2; have s3c := cell_later hb3 s3; have s4c := cell_later hb3 s4)
        | (go_at_call 33; refine (record_Year_c fs _ c id ver kind lang _ (h1.below hb3) HG.out).mono ?_; rintro e w4 ⟨rfl, hb4⟩; rw [HY.out]; have hb14 := Tx.step hb3 hb4)
        | (go_at_call 34; refine (Itoa_c _ _ (by omega) (by omega) (hG1.below hb14)).mono ?_; rintro e w5 ⟨rfl, hb5⟩; have hb15 := Tx.step hb14 hb5)
        | (at_builtin; (refine wpList_append_own _ rfl (.tmp 28) (.tmp 31) 29 rfl W.heap.size 9 i0 (.string ⟨#[]⟩) 1 16 Tryz.underlying29 hi0 hz0 hz1 hz2 rfl (by decide) _ 1 _ rfl ((own_below (own_below hown_w3 hb4) hb5).alloc _) ⟨_, 0, none⟩ 1 1 [.string ⟨(Lib.itoa (Y : Int)).toArray⟩] rfl rfl (Tx.cell_one_at _ _ (by first | rfl | simp) _ _) (by simp [Value.oneCell']) (by unfold maxLen; omega) (by omega) (by have := hb15.size; simp; omega) ?_); intro v_w6 w6 hown_w6 hg_w6 hnil_w6; have hb6 : Below W.heap.size W w6 := (hb15.alloc hb15.size _).grown hg_w6 (by have := hb15.size; simp; omega) (fun j hj => ((own_below (own_below hown_w3 hb4) hb5).lt j hj).1))
        | (go_at_call 41; refine (Join_c v_w6 [⟨P.toArray⟩, ⟨(Lib.itoa (Y : Int)).toArray⟩] ⟨#[44, 32]⟩ _ (SL.of_own hown_w6 rfl) (by rw [show Lib.join (([⟨P.toArray⟩, ⟨(Lib.itoa (Y : Int)).toArray⟩] : List ByteArray).map (·.data.toList)) (⟨#[44, 32]⟩ : ByteArray).data.toList = Ds.publ fs from HJ.out]; omega) (by simp)).mono ?_; rintro e w9 ⟨rfl, hb9⟩; rw [show Lib.join (([⟨P.toArray⟩, ⟨(Lib.itoa (Y : Int)).toArray⟩] : List ByteArray).map (·.data.toList)) (⟨#[44, 32]⟩ : ByteArray).data.toList = Ds.publ fs from HJ.out]))
      go_ret
      exact ⟨rfl, hB.trans ((Tx.step hb6 hb9).mono hB.size)⟩
end Go.Proofs.YtccbadbfijkaeaaGreatDoor
