/- Layer 25: Brief and Full: what the program's calls return. -/
import Derived.Test.YtccbadbfijkaeaaGreatDoorDsB
namespace Go.Proofs.YtccbadbfijkaeaaGreatDoor
open Go.RowKit
set_option maxRecDepth 100000

theorem Itoa_c (n : Int) (w : World) (h0 : -9223372036854775808 ≤ n) (h1 : n ≤ 9223372036854775807) (hG : G w) :
    Calls Tryz.prog 34 #[.int .i64 n] w fun e w' => e = .returned (.string ⟨(Lib.itoa n).toArray⟩) ∧ Below w.heap.size w w' :=
  (Tryz.strconv_Itoa n h0 h1 w hG.p).mono fun _ _ ⟨he, k, os, hw⟩ => ⟨he, hw ▸ below_grown w k os⟩

namespace Ds
abbrev mk (l : List UInt8) : ByteArray := ⟨l.toArray⟩
theorem full_take {fs : List Rc.Fl} {k : Nat} {f : Rc.Fl} (h : fs[k]? = some f) : full (fs.take (k + 1)) = full (fs.take k) ++ (if lineOf f = [] then [] else [lineOf f]) := by
  unfold full
  rw [List.take_add_one, h]
  simp only [Option.toList, List.map_append, List.filter_append, List.map_cons, List.map_nil]
  congr 1
  by_cases hl : lineOf f = []
  · simp [hl]
  · simp [hl]
theorem line_of {f : Rc.Fl} {N C S : List UInt8} (h : labelOf f.tag.data.toList = (N, C)) (hs : textOf f (N, C) = S) : lineOf f = if N = [] then [] else if S = [] then [] else N ++ [58, 32] ++ S := by
  unfold lineOf
  rw [h, hs]
end Ds

set_option maxHeartbeats 1600000 in
theorem Brief_c (fs : List Rc.Fl) (a : Option Addr) (c : Nat) (id ver kind : Int) (lang : ByteArray) (w : World) (hG : G w) (h : Rc.FldA w a c fs) (hg : ∀ f ∈ fs, Rc.Gd f) :
    Calls Tryz.prog 12 #[.agg #[.int .i64 id, .int .i64 ver, .int .i64 kind, .string lang, .slice a fs.length c]] w fun e w' => e = .returned (.string ⟨(Ds.brief fs).toArray⟩) ∧ Below w.heap.size w w' := by
  obtain ⟨W, hW⟩ : ∃ W, w.alloc (.cells #[.int .i64 id, .int .i64 ver, .int .i64 kind, .string lang, .slice a fs.length c] 24) = W := ⟨_, rfl⟩
  have hB : Below w.heap.size w W := by rw [← hW]; exact Tx.newb _ _
  have s0 : W.cell? ⟨w.heap.size, 0, none⟩ = some (.int .i64 id) := by rw [← hW]; simp
  have s1 : W.cell? ⟨w.heap.size, 1, none⟩ = some (.int .i64 ver) := by rw [← hW]; simp
  have s2 : W.cell? ⟨w.heap.size, 2, none⟩ = some (.int .i64 kind) := by rw [← hW]; simp
  have s3 : W.cell? ⟨w.heap.size, 3, none⟩ = some (.string lang) := by rw [← hW]; simp
  have s4 : W.cell? ⟨w.heap.size, 4, none⟩ = some (.slice a fs.length c) := by rw [← hW]; simp
  have h1 := h.below hB
  have hG1 := hG.below hB
  have HW := Lib.hid hW; clear hW
  have la := Ds.author_le hg
  have lh := Ds.heading_le hg
  have ly := Ds.year_le fs
  have li := Ds.itoa_year_le _ ly
  have HG := Lib.hid hg; clear hg
  have hbr : Ds.brief fs = (if Rc.author fs = [] then [] else Rc.author fs ++ [58, 32]) ++ Ds.heading fs ++ (if Rc.year fs = 0 then [] else [32, 40] ++ Lib.itoa (Rc.year fs) ++ [41]) := rfl
  have HBR := Lib.hid hbr; clear hbr
  obtain ⟨H, hH⟩ : ∃ H, Ds.heading fs = H := ⟨_, rfl⟩
  obtain ⟨A, hA⟩ : ∃ A, Rc.author fs = A := ⟨_, rfl⟩
  obtain ⟨Y, hY⟩ : ∃ Y, Rc.year fs = Y := ⟨_, rfl⟩
  rw [hH] at lh
  rw [hA] at la
  rw [hY] at ly li
  have HH := Lib.hid hH; clear hH
  have HA := Lib.hid hA; clear hA
  have HY := Lib.hid hY; clear hY
  obtain ⟨a1, a2, -⟩ := Tx.adds_ok Tryz.prog [⟨#[58, 32]⟩, ⟨H.toArray⟩] ⟨A.toArray⟩ (by simp only [List.map_cons, List.map_nil, List.sum_cons, List.sum_nil, Tx.size_mk]; simp; omega)
  obtain ⟨b1, b2, -⟩ := Tx.adds_ok Tryz.prog [⟨(Lib.itoa (Y : Int)).toArray⟩, ⟨#[41]⟩] ⟨#[32, 40]⟩ (by simp only [List.map_cons, List.map_nil, List.sum_cons, List.sum_nil, Tx.size_mk]; simp; omega)
  have d1 : ∀ W', (Op.stringOp .add (⟨A.toArray⟩ ++ ⟨#[58, 32]⟩ ++ ⟨H.toArray⟩ : ByteArray) (⟨#[32, 40]⟩ ++ ⟨(Lib.itoa (Y : Int)).toArray⟩ ++ ⟨#[41]⟩)).run Tryz.prog W' = .ok (.string ((⟨A.toArray⟩ ++ ⟨#[58, 32]⟩ ++ ⟨H.toArray⟩ : ByteArray) ++ (⟨#[32, 40]⟩ ++ ⟨(Lib.itoa (Y : Int)).toArray⟩ ++ ⟨#[41]⟩))) W' := fun W' => run_string_add_sum W' _ _ (by simp [ByteArray.size]; omega)
  have d2 : ∀ W', (Op.stringOp .add (⟨H.toArray⟩ : ByteArray) (⟨#[32, 40]⟩ ++ ⟨(Lib.itoa (Y : Int)).toArray⟩ ++ ⟨#[41]⟩)).run Tryz.prog W' = .ok (.string ((⟨H.toArray⟩ : ByteArray) ++ (⟨#[32, 40]⟩ ++ ⟨(Lib.itoa (Y : Int)).toArray⟩ ++ ⟨#[41]⟩))) W' := fun W' => run_string_add_sum W' _ _ (by simp [ByteArray.size]; omega)
  have hce : ∃ z, A.isEmpty = z := ⟨_, rfl⟩
  obtain ⟨z, hz⟩ := hce
  have hyc : ∃ y, ((Y : Int) != 0) = y := ⟨_, rfl⟩
  obtain ⟨y, hy⟩ := hyc
  cases z <;> cases y
  all_goals
    go_enter Tryz.func12, Tryz.ntmps12
    go_wp2_with (first
      | (go_at_call 31; rw [HW.out]; refine (title_c fs a c id ver kind lang _ h1 HG.out).mono ?_; rintro e w1 ⟨rfl, hb1⟩; rw [HH.out]; have s01 := cell_later hb1 s0; have s11 := cell_later hb1 s1; have s21 := cell_later hb1 s2; have s31 := cell_later hb1 s3; have s41 := cell_later hb1 s4)
      | (go_at_call 32; refine (record_Author_c fs a c id ver kind lang _ (h1.below hb1)).mono ?_; rintro e w2 ⟨rfl, hb2⟩; rw [HA.out]; have hb12 := Tx.step hb1 hb2; have s02 := cell_later hb12 s0; have s12 := cell_later hb12 s1; have s22 := cell_later hb12 s2; have s32 := cell_later hb12 s3; have s42 := cell_later hb12 s4)
      | (go_at_call 33; refine (record_Year_c fs a c id ver kind lang _ (h1.below hb12) HG.out).mono ?_; rintro e w3 ⟨rfl, hb3⟩; rw [HY.out]; have hb13 := Tx.step hb12 hb3)
      | (go_at_call 34; refine (Itoa_c _ _ (by omega) (by omega) (hG1.below hb13)).mono ?_; rintro e w4 ⟨rfl, hb4⟩))
    go_ret
    have hzA : (A = []) = (A.isEmpty = true) := by simp
    have hyY : (Y = 0) = (((Y : Int) != 0) = false) := by simp
    first
      | exact ⟨Tx.rets (by rw [HBR.out, HA.out, HH.out, HY.out]; simp only [hzA, hyY, hz, hy]; simp [Tx.bcat]), hB.trans ((Tx.step hb13 hb4).mono hB.size)⟩
      | exact ⟨Tx.rets (by rw [HBR.out, HA.out, HH.out, HY.out]; simp only [hzA, hyY, hz, hy]; simp [Tx.bcat]), hB.trans (hb13.mono hB.size)⟩

set_option maxHeartbeats 1600000 in
theorem Full_c (fs : List Rc.Fl) (a : Option Addr) (c : Nat) (id ver kind : Int) (lang : ByteArray) (w : World) (h : Rc.FldA w a c fs) (hg : ∀ f ∈ fs, Rc.Gd f) (hn : fs.length ≤ 1000000) :
    Calls Tryz.prog 17 #[.agg #[.int .i64 id, .int .i64 ver, .int .i64 kind, .string lang, .slice a fs.length c]] w fun e w' => ∃ va vc, e = .returned (.slice va ((Ds.full fs).map Ds.mk).length vc) ∧ SLA w' va vc ((Ds.full fs).map Ds.mk) ∧ Below w.heap.size w w' := by
  obtain ⟨i0, hi0, hz0, hz1, hz2⟩ := info_parts info_str
  have hcap := h.cap
  have hB := Tx.newb w (.cells #[.int .i64 id, .int .i64 ver, .int .i64 kind, .string lang, .slice a fs.length c] 24)
  go_enter Tryz.func17, Tryz.ntmps17
  go_wp2
  go_loopw [3, 5, 6, 7, 8, 12] (fun v _ _ _ _ i wr => ∃ (k : Nat) (L : List ByteArray), k ≤ fs.length ∧ i = .int .i64 k ∧ Hid (L = (Ds.full (fs.take k)).map Ds.mk) ∧ L.length ≤ k ∧ wr.ownsRow w.heap.size 9 1 v L.length (L.map Value.string) ∧ Below w.heap.size w wr) (fun _ _ _ _ _ i _ => fs.length - (intOf i).toNat)
  case atStart => exact ⟨0, [], Nat.zero_le _, rfl, Lib.hid rfl, Nat.le_refl _, World.ownsRow_nil _ _ _ _, hB⟩
  case round =>
    obtain ⟨k, L, hk, rfl, hL, hLk, hown, hb⟩ := hrel
    by_cases hlt : k < fs.length
    · obtain ⟨f, hf⟩ : ∃ f, fs[k]? = some f := ⟨_, List.getElem?_eq_getElem hlt⟩
      have hgf := hg f (List.mem_of_getElem? hf)
      obtain ⟨b, o, sa, sc, rfl, hbl, c0, c1, c2, c3, hsub⟩ := h.get hf
      replace c0 := cell_later hb c0
      replace c1 := cell_later hb c1
      replace c2 := cell_later hb c2
      replace c3 := cell_later hb c3
      have hbs := hb.size
      have hbw := hb.alloc hb.size (.cells #[.string f.tag, .string f.ind, .slice sa f.subs.length sc, .int .i64 f.auth] 42)
      have hsub1 := (hsub.below hb).below (Tx.newb wr (.cells #[.string f.tag, .string f.ind, .slice sa f.subs.length sc, .int .i64 f.auth] 42))
      have how1 := hown.alloc (.cells #[.string f.tag, .string f.ind, .slice sa f.subs.length sc, .int .i64 f.auth] 42)
      have hft := congrArg (List.map Ds.mk) (Ds.full_take hf)
      rw [List.map_append, ← hL.out] at hft
      obtain ⟨⟨N, C⟩, hnc⟩ : ∃ nc, Ds.labelOf f.tag.data.toList = nc := ⟨_, rfl⟩
      have hnl := Ds.labelOf_len f.tag.data.toList
      rw [hnc] at hnl
      obtain ⟨hnl, hcl⟩ := hnl
      simp only at hnl hcl
      obtain ⟨S, hS⟩ : ∃ S, Ds.textOf f (N, C) = S := ⟨_, rfl⟩
      have hSl := Ds.textOf_le hgf (N, C)
      rw [hS] at hSl
      rw [Ds.line_of hnc hS] at hft
      have HNC := Lib.hid hnc; clear hnc
      have HG := Lib.hid hgf; clear hgf
      have hS1 : (N == [83, 117, 98, 106, 101, 99, 116]) = true → Lib.join (Rc.bys (Rc.allV f.subs C)) [45, 45] = S := fun h9 => by rw [← hS]; unfold Ds.textOf; rw [if_pos (by simpa using h9)]
      have hS2 : (N == [83, 117, 98, 106, 101, 99, 116]) = false → Rc.plain f.subs C = S := fun h9 => by rw [← hS]; unfold Ds.textOf; rw [if_neg (by simpa using h9)]
      clear hS
      have HS1 := Lib.hid hS1; clear hS1
      have HS2 := Lib.hid hS2; clear hS2
      by_cases hN : N = []
      · subst hN
        rw [if_pos rfl, if_pos rfl, List.map_nil, List.append_nil] at hft
        have HT := Lib.hid hft; clear hft
        go_wp2_with (go_at_call 44; refine (label_c f.tag _).mono ?_; rintro e w1 ⟨rfl, rfl⟩; rw [HNC.out])
        go_roundw
        case rel => exact ⟨k + 1, L, by omega, by go_num, Lib.hid HT.out.symm, by omega, how1, hbw⟩
        case measure => simp [intOf]; omega
      · rw [if_neg hN] at hft
        have hNe : N.isEmpty = false := by simpa using hN
        clear hN
        cases hsj : (N == [83, 117, 98, 106, 101, 99, 116]) <;> by_cases hS0 : S = []
        · subst hS0
          rw [if_pos rfl, if_pos rfl, List.map_nil, List.append_nil] at hft
          have HT := Lib.hid hft; clear hft
          have hP := HS2.out hsj
          have HP := Lib.hid hP; clear hP
          go_wp2_with (first
            | (go_at_call 44; refine (label_c f.tag _).mono ?_; rintro e w1 ⟨rfl, rfl⟩; rw [HNC.out])
            | (go_at_call 45; refine (field_Plain_c f sa sc ⟨C.toArray⟩ _ hsub1 HG.out).mono ?_; rintro e w2 ⟨rfl, hb2⟩; rw [show Rc.plain f.subs (⟨C.toArray⟩ : ByteArray).data.toList = [] from HP.out]))
          go_roundw
          case rel => exact ⟨k + 1, L, by omega, by go_num, Lib.hid HT.out.symm, by omega, own_below how1 hb2, Tx.step hbw hb2⟩
          case measure => simp [intOf]; omega
        · rw [if_neg hS0, if_neg (by simp), List.map_cons, List.map_nil] at hft
          have hSe : (!S.isEmpty) = true := by simpa using hS0
          clear hS0
          have HT := Lib.hid hft; clear hft
          have hP := HS2.out hsj
          have HP := Lib.hid hP; clear hP
          obtain ⟨a1, a2, -⟩ := Tx.adds_ok Tryz.prog [⟨#[58, 32]⟩, ⟨S.toArray⟩] ⟨N.toArray⟩ (by simp only [List.map_cons, List.map_nil, List.sum_cons, List.sum_nil, Tx.size_mk]; simp; omega)
          go_wp2_with (first
            | (go_at_call 44; refine (label_c f.tag _).mono ?_; rintro e w1 ⟨rfl, rfl⟩; rw [HNC.out])
            | (go_at_call 45; refine (field_Plain_c f sa sc ⟨C.toArray⟩ _ hsub1 HG.out).mono ?_; rintro e w2 ⟨rfl, hb2⟩; rw [show Rc.plain f.subs (⟨C.toArray⟩ : ByteArray).data.toList = S from HP.out])
            | (at_builtin; go_must (refine wpList_append_own _ rfl _ _ 29 rfl w.heap.size 9 i0 (.string ⟨#[]⟩) 1 16 Tryz.underlying29 hi0 hz0 hz1 hz2 rfl (by decide) _ L.length _ rfl ((own_below how1 hb2).alloc _) ⟨_, 0, none⟩ 1 1 [.string (⟨N.toArray⟩ ++ ⟨#[58, 32]⟩ ++ ⟨S.toArray⟩)] rfl rfl (Tx.cell_one_at _ _ (by simp) _ _) (by simp [Value.oneCell']) (by unfold maxLen; omega) (by omega) (by have := hb2.size; simp at this ⊢; omega) ?_); intro v' w5 hown5 hg5 hnil5))
          have hbz := Tx.step hbw hb2
          have hb5 : Below w.heap.size w w5 := (hbz.alloc hbz.size _).grown hg5 (by have := hbz.size; simp; omega) (fun j hj => (hown.lt j hj).1)
          go_roundw
          case rel => exact ⟨k + 1, L ++ [Ds.mk (N ++ [58, 32] ++ S)], by omega, by go_num, Lib.hid HT.out.symm, by simp; omega, by simpa [Tx.bcat, Ds.mk] using hown5, hb5⟩
          case measure => simp [intOf]; omega
        · subst hS0
          rw [if_pos rfl, if_pos rfl, List.map_nil, List.append_nil] at hft
          have HT := Lib.hid hft; clear hft
          have hP := HS1.out hsj
          have HP := Lib.hid hP; clear hP
          go_wp2_with (first
            | (go_at_call 44; refine (label_c f.tag _).mono ?_; rintro e w1 ⟨rfl, rfl⟩; rw [HNC.out])
            | (go_at_call 45; refine (field_Plain_c f sa sc ⟨C.toArray⟩ _ hsub1 HG.out).mono ?_; rintro e w2 ⟨rfl, hb2⟩; have hbc := Tx.bcell hb2)
            | (go_at_call 46; refine (field_All_c f sa sc ⟨C.toArray⟩ _ (hsub1.below hb2) HG.out.1).mono ?_; rintro e w3 ⟨vv, rfl, hsl3, hb3⟩)
            | (go_at_call 41; refine (Join_c vv _ ⟨#[45, 45]⟩ _ hsl3 (Nat.le_trans (HG.out.join_le C [45, 45] (by simp)) (by omega)) (Nat.le_trans (HG.out.all C).1 (by omega))).mono ?_; rintro e w4 ⟨rfl, hb4⟩; rw [show Lib.join ((Rc.allV f.subs (⟨C.toArray⟩ : ByteArray).data.toList).map (·.data.toList)) (⟨#[45, 45]⟩ : ByteArray).data.toList = [] from HP.out]))
          have hb24 := Tx.step (Tx.step hb2 hb3) hb4
          go_roundw
          case rel => exact ⟨k + 1, L, by omega, by go_num, Lib.hid HT.out.symm, by omega, own_below how1 hb24, Tx.step hbw hb24⟩
          case measure => simp [intOf]; omega
        · rw [if_neg hS0, if_neg (by simp), List.map_cons, List.map_nil] at hft
          have hSe : (!S.isEmpty) = true := by simpa using hS0
          clear hS0
          have HT := Lib.hid hft; clear hft
          have hP := HS1.out hsj
          have HP := Lib.hid hP; clear hP
          obtain ⟨a1, a2, -⟩ := Tx.adds_ok Tryz.prog [⟨#[58, 32]⟩, ⟨S.toArray⟩] ⟨N.toArray⟩ (by simp only [List.map_cons, List.map_nil, List.sum_cons, List.sum_nil, Tx.size_mk]; simp; omega)
          go_wp2_with (first
            | (go_at_call 44; refine (label_c f.tag _).mono ?_; rintro e w1 ⟨rfl, rfl⟩; rw [HNC.out])
            | (go_at_call 45; refine (field_Plain_c f sa sc ⟨C.toArray⟩ _ hsub1 HG.out).mono ?_; rintro e w2 ⟨rfl, hb2⟩; have hbc := Tx.bcell hb2)
            | (go_at_call 46; refine (field_All_c f sa sc ⟨C.toArray⟩ _ (hsub1.below hb2) HG.out.1).mono ?_; rintro e w3 ⟨vv, rfl, hsl3, hb3⟩)
            | (go_at_call 41; refine (Join_c vv _ ⟨#[45, 45]⟩ _ hsl3 (Nat.le_trans (HG.out.join_le C [45, 45] (by simp)) (by omega)) (Nat.le_trans (HG.out.all C).1 (by omega))).mono ?_; rintro e w4 ⟨rfl, hb4⟩; rw [show Lib.join ((Rc.allV f.subs (⟨C.toArray⟩ : ByteArray).data.toList).map (·.data.toList)) (⟨#[45, 45]⟩ : ByteArray).data.toList = S from HP.out]; have hb24 := Tx.step (Tx.step hb2 hb3) hb4)
            | (at_builtin; go_must (refine wpList_append_own _ rfl _ _ 29 rfl w.heap.size 9 i0 (.string ⟨#[]⟩) 1 16 Tryz.underlying29 hi0 hz0 hz1 hz2 rfl (by decide) _ L.length _ rfl ((own_below how1 hb24).alloc _) ⟨_, 0, none⟩ 1 1 [.string (⟨N.toArray⟩ ++ ⟨#[58, 32]⟩ ++ ⟨S.toArray⟩)] rfl rfl (Tx.cell_one_at _ _ (by simp) _ _) (by simp [Value.oneCell']) (by unfold maxLen; omega) (by omega) (by have := hb24.size; simp at this ⊢; omega) ?_); intro v' w5 hown5 hg5 hnil5))
          have hbz := Tx.step hbw hb24
          have hb5 : Below w.heap.size w w5 := (hbz.alloc hbz.size _).grown hg5 (by have := hbz.size; simp; omega) (fun j hj => (hown.lt j hj).1)
          go_roundw
          case rel => exact ⟨k + 1, L ++ [Ds.mk (N ++ [58, 32] ++ S)], by omega, by go_num, Lib.hid HT.out.symm, by simp; omega, by simpa [Tx.bcat, Ds.mk] using hown5, hb5⟩
          case measure => simp [intOf]; omega
    · obtain rfl : k = fs.length := by omega
      have hL2 := hL.out
      rw [Rc.take_all] at hL2
      subst hL2
      obtain ⟨va, vc, rfl, hsl⟩ := SLA.of_own hown rfl
      go_wp2
      go_ret
      exact ⟨_, _, rfl, hsl, hb⟩
end Go.Proofs.YtccbadbfijkaeaaGreatDoor
