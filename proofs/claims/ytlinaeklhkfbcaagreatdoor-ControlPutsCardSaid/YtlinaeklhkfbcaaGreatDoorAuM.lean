/- The chapter's authority file: its headings, by form: what the calls return. -/
import Derived.Test.YtlinaeklhkfbcaaGreatDoorNoM
import Derived.Test.YtlinaeklhkfbcaaGreatDoorPuB
import Derived.DeepKeys5
import Derived.Maps.OwnSet
import Derived.Deep.RegionHeld3
import Derived.Test.YtlinaeklhkfbcaaGreatDoorSaM
import Derived.Test.YtlinaeklhkfbcaaGreatDoorPrM
import Derived.Test.YtlinaeklhkfbcaaGreatDoorPuA
namespace Go.Proofs.YtlinaeklhkfbcaaGreatDoor
open Go.RowKit Go.Maps
set_option maxRecDepth 100000

set_option maxHeartbeats 1600000 in
theorem headings_c (id kind : Int) (h : ByteArray) (see : List ByteArray) (sa : Option Addr) (sc : Nat) (aa : Option Addr) (an ac : Nat) (w : World) (hs : SLA w sa sc see) (hn : see.length ≤ 1000) :
    Calls Tryz.prog 120 #[.agg #[.int .i64 id, .int .i64 kind, .string h, .slice sa see.length sc, .slice aa an ac]] w fun e w' => ∃ va vc, e = .returned (.slice va (h :: see).length vc) ∧ SLA w' va vc (h :: see) ∧ Below w.heap.size w w' ∧ ∀ q, va = some q → w.heap.size ≤ q.block := by
  obtain ⟨i0, hi0, hz0, hz1, hz2⟩ := info_parts info_str
  have hml : maxLen = 9223372036854775807 := rfl
  have hcap := hs.cap
  have hmax := hs.max
  obtain ⟨W, hW⟩ : ∃ W, w.alloc (.cells #[.int .i64 id, .int .i64 kind, .string h, .slice sa see.length sc, .slice aa an ac] 56) = W := ⟨_, rfl⟩
  have hB : Below w.heap.size w W := by rw [← hW]; exact Tx.newb _ _
  have hWs : W.heap.size = w.heap.size + 1 := by rw [← hW]; simp
  obtain ⟨bc, bf, bl⟩ := Tx.blk (show W.heap[w.heap.size]? = some (.cells #[.int .i64 id, .int .i64 kind, .string h, .slice sa see.length sc, .slice aa an ac] 56 (0, 0)) by rw [← hW]; exact heap_alloc_new _ _)
  have hown : (W.alloc (.cells #[.string h] 9)).ownsRow w.heap.size 9 1 (.slice (some ⟨W.heap.size, 0, none⟩) 1 1) 1 [.string h] := World.ownsRow_lit (base := w.heap.size) (e := 9) (size := 1) W #[.string h] 1 (by omega) (by unfold maxLen; omega) rfl
  have hsW := (hs.below hB).below (Tx.newb W (.cells #[.string h] 9))
  have HWs := Lib.hid hWs
  have hWl : w.heap.size ≤ W.heap.size := by omega
  clear hWs
  go_enter Tryz.func120, Tryz.ntmps120
  go_wp2_with (at_builtin; go_must (refine wpList_append_sl rfl _ _ 54 rfl w.heap.size 9 i0 (.string ⟨#[]⟩) 1 16 Tryz.underlying54 hi0 hz0 hz1 hz2 rfl (by decide) _ 1 [.string h] rfl hown sa see.length sc (see.map Value.string) rfl (by simp) hsW.none hsW.cells (SLA.ones see) (by unfold maxLen; omega) (by omega) (by simp; omega) ?_); intro v' w2 hown2 hg2 hvb)
  have hown3 : w2.ownsRow w.heap.size 9 1 v' (h :: see).length ((h :: see).map Value.string) := by
    have e1 : (h :: see).length = 1 + see.length := by simp; omega
    rw [e1]
    exact hown2
  have hb2 : Below w.heap.size w w2 := (hB.alloc hB.size _).grown hg2 (by simp; omega) (fun j hj => by cases hj; exact hWl)
  obtain ⟨va, vc, rfl, hSA⟩ := SLA.of_own hown3 rfl
  go_ret
  exact ⟨va, vc, rfl, hSA, hb2, fun q hq => (hown3.lt q.block (by rw [hq]; rfl)).1⟩

namespace Al
/-- The chapter's authority file in memory. -/
def AuW (w : World) (bl bs : Nat) : Prop :=
  w.heap[bl]? = some (.cells #[.int .i64 7, .int .i64 3, .string ⟨#[68, 111, 103, 115]⟩, .slice (some ⟨bs, 0, none⟩) 1 1, .slice none 0 0] 56 (0, 0)) ∧ w.heap[bs]? = some (.cells #[.string ⟨#[72, 111, 117, 110, 100, 115]⟩] 9 (0, 0))
theorem AuW.below {w w' : World} {bl bs : Nat} (h : AuW w bl bs) (hb : Below w.heap.size w w') : AuW w' bl bs := ⟨Tx.blk_later h.1 hb, Tx.blk_later h.2 hb⟩
theorem AuW.see {w : World} {bl bs : Nat} (h : AuW w bl bs) : SLA w (some ⟨bs, 0, none⟩) 1 [⟨#[72, 111, 117, 110, 100, 115]⟩] :=
  ⟨by simp, by unfold maxLen; omega, bs, 0, fun _ => ⟨rfl, (Array.getElem?_eq_some_iff.1 h.2).1⟩, fun j x hx => by
    match j, hx with
    | 0, hx =>
      simp at hx
      subst hx
      rw [(Tx.blk h.2).1]
      rfl
    | j + 1, hx => simp at hx⟩
abbrev fv (s : ByteArray) : Value := .agg #[.int .i64 3, .string s]
abbrev dogs : ByteArray := ⟨#[100, 111, 103, 115]⟩
abbrev hounds : ByteArray := ⟨#[104, 111, 117, 110, 100, 115]⟩
theorem key_dogs : (keyOf Tryz.prog 128 (fv dogs)).isSome = true := by kernel_rfl
theorem key_hounds : (keyOf Tryz.prog 128 (fv hounds)).isSome = true := by kernel_rfl
theorem laidOut : laidOutB Tryz.prog = true := by kernel_rfl
theorem law_form : Keyed Tryz.prog 128 := Keyed.of_law (deep_law_gate laidOut (Nat.le_of_ble_eq_true (by kernel_rfl)) (Nat.le_of_ble_eq_true (by kernel_rfl)) (by kernel_rfl) (by kernel_rfl))
theorem zero_int (w : World) : (zeroValue 3).run Tryz.prog w = .ok (.int .i64 0) w := by kernel_rfl
theorem norm_dogs : Hd.norm [68, 111, 103, 115] = [100, 111, 103, 115] := by decide +kernel
theorem norm_hounds : Hd.norm [72, 111, 117, 110, 100, 115] = [104, 111, 117, 110, 100, 115] := by decide +kernel
theorem norm_hounds2 : Hd.norm [104, 111, 117, 110, 100, 115] = [104, 111, 117, 110, 100, 115] := by decide +kernel
end Al
end Go.Proofs.YtlinaeklhkfbcaaGreatDoor

/- The chapter's authority file: the table of its headings: what the call returns. -/
namespace Go.Proofs.YtlinaeklhkfbcaaGreatDoor
open Go.RowKit Go.Maps
set_option maxRecDepth 100000

namespace Al
/-- The table behind so many headings. -/
def Dj (k1 k2 : Lit) : Nat → DataW Unit
  | 0 => .map []
  | 1 => (DataW.map []).put k1 (.lit (.int .i64 0))
  | _ => ((DataW.map []).put k1 (.lit (.int .i64 0))).put k2 (.lit (.int .i64 0))
/-- The call owns this table. -/
def Tab (w : World) (b n : Nat) (D : DataW Unit) : Prop := World.ownsMap (H := Unit) w Tryz.prog 128 (plainElem Tryz.prog 3) b n D
theorem Tab.below {w w' : World} {b n : Nat} {D : DataW Unit} (h : Tab w b n D) (hb : Below w.heap.size w w') : Tab w' b n D :=
  World.ownsMap.kept (row := none) h ⟨hb.os, hb.tape, hb.output, hb.size, fun k hk _ => hb.block k hk⟩ (by simp)
abbrev au (bs : Nat) : Obj := .cells #[.int .i64 7, .int .i64 3, .string ⟨#[68, 111, 103, 115]⟩, .slice (some ⟨bs, 0, none⟩) 1 1, .slice none 0 0] 56 (0, 0)
theorem has_nil (k : Lit) : Maps.has (DataW.map [] : DataW Unit) k = false := rfl
end Al
set_option maxHeartbeats 3200000 in
theorem forms_al (bl bs : Nat) (w : World) (h : Al.AuW w bl bs) (hG : G w) (k1 k2 : Lit) (hk1 : keyOf Tryz.prog 128 (Al.fv Al.dogs) = some k1) (hk2 : keyOf Tryz.prog 128 (Al.fv Al.hounds) = some k2) (hne : k2 ≠ k1) :
    Calls Tryz.prog 87 #[.slice (some ⟨bl, 0, none⟩) 1 1] w fun e w' => e = .returned (.tuple #[.map (some w.heap.size), .bool true]) ∧ Al.Tab w' w.heap.size 2 (Al.Dj k1 k2 2) ∧ Below w.heap.size w w' := by
  have hml : maxLen = 9223372036854775807 := rfl
  have HK1 := Lib.hid hk1
  have HK2 := Lib.hid hk2
  have HNE := Lib.hid hne
  have hmm := @run_makeMap Tryz.prog
  obtain ⟨ac, af, al⟩ := Tx.blk h.1
  clear hk1 hk2 hne
  go_enter Tryz.func87, Tryz.ntmps87
  go_wp2
  go_loopw [15] (fun i wr => ∃ k : Nat, k ≤ 1 ∧ i = .int .i64 k ∧ Al.Tab wr w.heap.size (2 * k) (Al.Dj k1 k2 (2 * k)) ∧ Below w.heap.size w wr) (fun i _ => 1 - (intOf i).toNat)
  case atStart => exact ⟨0, Nat.zero_le _, rfl, World.ownsMap_made w _ _ _, Tx.newb _ _⟩
  case round =>
    obtain ⟨k, hk, rfl, hT, hb⟩ := hrel
    generalize wr = wo at *
    by_cases hlt : k < 1
    · obtain rfl : k = 0 := by omega
      have hA := h.below hb
      obtain ⟨bc, bf, bl2⟩ := Tx.blk hA.1
      have hbs := hb.size
      go_wp2_with (go_at_call 120; refine (headings_c 7 3 ⟨#[68, 111, 103, 115]⟩ [⟨#[72, 111, 117, 110, 100, 115]⟩] (some ⟨bs, 0, none⟩) 1 none 0 0 _ (hA.see.below (Tx.newb _ _)) (by simp)).mono ?_; rintro e w2 ⟨va, vc, rfl, hSA, hb2, hvq⟩)
      have kt := Tx.fresh hb2
      have hT2 : Al.Tab w2 w.heap.size 0 (.map []) := (hT.below (Tx.newb wo _)).below hb2
      have hbw2 := Tx.step (hb.alloc hbs (Al.au bs)) hb2
      have hcap := hSA.cap
      have hmax := hSA.max
      have hvq2 : ∀ q, va = some q → w.heap.size < q.block := fun q hq => by
        have h1 := hvq q hq
        simp at h1
        have h2 := hT.lt
        omega
      have htb : w.heap.size < wo.heap.size := hT.lt
      generalize wo.heap.size = tb at kt htb
      have HVQ := Lib.hid hvq2
      clear hvq hvq2 hT bc bf bl2
      go_loopw [23] (fun i wr => ∃ j : Nat, j ≤ 2 ∧ i = .int .i64 j ∧ Al.Tab wr w.heap.size j (Al.Dj k1 k2 j) ∧ SLA wr va vc [⟨#[68, 111, 103, 115]⟩, ⟨#[72, 111, 117, 110, 100, 115]⟩] ∧ wr.heap[tb]? = some (Al.au bs) ∧ Below w.heap.size w wr) (fun i _ => 2 - (intOf i).toNat)
      case atStart => exact ⟨0, Nat.zero_le _, rfl, hT2, hSA, kt, hbw2⟩
      case round =>
        obtain ⟨j, hj, rfl, hTj, hSj, ktj, hbj⟩ := hrel
        have hbjs := hbj.size
        by_cases hlt2 : j < 2
        · obtain ⟨x, nx, kl, hx, hxs, hxv, hn, hkey, hhas, hput⟩ : ∃ (x nx : ByteArray) (kl : Lit), ([⟨#[68, 111, 103, 115]⟩, ⟨#[72, 111, 117, 110, 100, 115]⟩] : List ByteArray)[j]? = some x ∧ x.size ≤ 1000 ∧ Tx.valid x.data.toList = true ∧ (⟨(Hd.norm x.data.toList).toArray⟩ : ByteArray) = nx ∧ keyOf Tryz.prog 128 (Al.fv nx) = some kl ∧ Maps.has (Al.Dj k1 k2 j) kl = false ∧ (Al.Dj k1 k2 j).put kl (.lit (.int .i64 0)) = Al.Dj k1 k2 (j + 1) := by
            rcases (show j = 0 ∨ j = 1 by omega) with rfl | rfl
            · exact ⟨⟨#[68, 111, 103, 115]⟩, Al.dogs, k1, rfl, by decide, by decide, by rw [show (⟨#[68, 111, 103, 115]⟩ : ByteArray).data.toList = [68, 111, 103, 115] from rfl, Al.norm_dogs], HK1.out, Al.has_nil _, rfl⟩
            · exact ⟨⟨#[72, 111, 117, 110, 100, 115]⟩, Al.hounds, k2, rfl, by decide, by decide, by rw [show (⟨#[72, 111, 117, 110, 100, 115]⟩ : ByteArray).data.toList = [72, 111, 117, 110, 100, 115] from rfl, Al.norm_hounds], HK2.out, by
                show Maps.has ((DataW.map []).put k1 (.lit (.int .i64 0)) : DataW Unit) k2 = false
                rw [Maps.has_put_other HNE.out]
                exact Al.has_nil _, rfl⟩
          obtain ⟨b, o, rfl, hbl, c0⟩ := hSj.get hx
          obtain ⟨kc, kf, kl2⟩ := Tx.blk ktj
          have hGr := hG.below hbj
          have HXV := Lib.hid hxv
          have HNX := Lib.hid hn
          have HKEY := Lib.hid hkey
          have HHAS := Lib.hid hhas
          have HPUT := Lib.hid hput
          have HX := Lib.hid hx
          clear hxv hn hkey hhas hput hx
          go_wp2
          refine wp_region_held_drew (S := (fun w' => Below wr.heap.size wr w' ∧ w'.cell? ⟨tb, 1, none⟩ = some (.int .i64 3))) (by kernel_rfl) ?_ (fun hHeld => ?_)
          · exact ⟨(Below.refl _ _).drew, kc 1⟩
          refine wpAnyH_take (i := 0) (oi := ⟨some 27, _, _, _, _, _⟩) (v := .pointer (some ⟨tb, 1, none⟩)) rfl (by kernel_rfl) (by kernel_rfl) (by kernel_rfl) (fun _ _ _ h => h) (Or.inl ⟨by rfl, ?_⟩) (by assumption) ?_
          · intro w hSw; (try dsimp only at hSw); go_simp
          simp only [Act.put, List.setIfInBounds_toArray, List.set_cons_zero, List.set_cons_succ]
          refine wpAnyH_take (i := 1) (oi := ⟨some 28, _, _, _, _, _⟩) (v := .int .i64 3) rfl (by kernel_rfl) (by kernel_rfl) (by kernel_rfl) (fun _ _ _ h => h) (Or.inl ⟨by rfl, ?_⟩) (by assumption) ?_
          · intro w hSw; (try dsimp only at hSw); go_simp
          simp only [Act.put, List.setIfInBounds_toArray, List.set_cons_zero, List.set_cons_succ]
          refine wpAnyH_take (i := 2) (oi := ⟨some 29, _, _, _, _, _⟩) (v := .string x) rfl (by kernel_rfl) (by kernel_rfl) (by kernel_rfl) (fun _ _ _ h => h) (Or.inl ⟨by rfl, ?_⟩) (by assumption) ?_
          · intro w hSw; (try dsimp only at hSw); go_simp
          simp only [Act.put, List.setIfInBounds_toArray, List.set_cons_zero, List.set_cons_succ]
          refine wpAnyH_ready (rs := [3, 5]) (by kernel_rfl) (by simp) ?_
          refine AllReadyH.cons (o := ⟨some 30, _, _, _, _, _⟩) rfl (fun K hK => ?_) (AllReadyH.cons (o := ⟨some 9, _, _, _, _, _⟩) rfl (fun K hK => ?_) AllReadyH.nil)
          · go_simp
            go_split_ands
            go_at_call 86
            refine (heading_Norm_c x _ hxs HXV.out (hGr.below (by assumption))).mono ?_
            rintro e wx ⟨rfl, hbx⟩
            rw [HNX.out]
            go_wp2_with fail
            refine hK.out _ _ ?_ (fun hHeld => ?_)
            · go_split_ands
              exact ⟨Tx.step (by assumption) hbx, cell_later hbx (by assumption)⟩
            clear hK K
            try simp only [Act.put, List.setIfInBounds_toArray, List.set_cons_zero, List.set_cons_succ]
            refine wpAnyH_take (i := 4) (oi := ⟨some 31, _, _, _, _, _⟩) (v := .agg #[.int .i64 3, .string nx]) rfl (by kernel_rfl) (by kernel_rfl) (by kernel_rfl) (fun _ _ _ h => h) (Or.inl ⟨by rfl, ?_⟩) (by assumption) ?_
            · intro w hSw; (try dsimp only at hSw); go_simp
            simp only [Act.put, List.setIfInBounds_toArray, List.set_cons_zero, List.set_cons_succ]
            refine wpAnyH_ready (rs := [5]) (by kernel_rfl) (by simp) ?_
            refine AllReadyH.cons (o := ⟨some 9, _, _, _, _, _⟩) rfl (fun K hK => ?_) AllReadyH.nil
            go_simp
            go_split_ands
            have hbw9 : Below wr.heap.size wr wx := by assumption
            have hcx : wx.cell? ⟨tb, 1, none⟩ = some (.int .i64 3) := by assumption
            refine hK.out _ _ ?_ (fun hHeld => ?_)
            · exact ⟨Tx.step hbw9 (Tx.newb _ _), cell_later (Tx.newb _ _) hcx⟩
            clear hK K
            try simp only [Act.put, List.setIfInBounds_toArray, List.set_cons_zero, List.set_cons_succ]
            refine wpAnyH_ready (rs := [6]) (by kernel_rfl) (by simp) ?_
            refine AllReadyH.cons (o := ⟨none, _, _, _, _, _⟩) rfl (fun K hK => ?_) AllReadyH.nil
            go_simp
            go_split_ands
            have hbz : Below wr.heap.size wr (wx.alloc (.cells #[.int .i64 3, .string nx] 128)) := Tx.step hbw9 (Tx.newb _ _)
            have hcz : (wx.alloc (.cells #[.int .i64 3, .string nx] 128)).cell? ⟨tb, 1, none⟩ = some (.int .i64 3) := cell_later (Tx.newb _ _) hcx
            refine hK.out _ _ ?_ (fun hHeld => ?_)
            · exact ⟨hbz, hcz⟩
            clear hK K hHeld
            try simp only [Act.put, List.setIfInBounds_toArray, List.set_cons_zero, List.set_cons_succ]
            refine wpAnyH_done (by kernel_rfl) ?_ _
            go_split_ands
            have hTz := hTj.below hbz
            have hbwz := Tx.step hbj hbz
            have hbwzs := hbwz.size
            have hSz := hSj.below hbz
            have ktz := Tx.blk_later ktj hbz
            have hjn : j < maxLen := by unfold maxLen; omega
            clear hcz hcx
            go_wp2_with (first
              | (at_lookup; refine wpList_lookup_own_ok_int _ rfl _ _ 123 rfl 128 3 .i64 Al.law_form Tryz.underlying123 Tryz.underlying3 (Al.zero_int _) w.heap.size j (Al.Dj k1 k2 j) rfl hTz _ kl rfl HKEY.out ?_; intro cc hat hwc; rw [HHAS.out])
              | (at_mapUpdate; refine wpList_mapUpdate_own _ rfl _ _ _ 123 rfl 128 3 Al.law_form Tryz.underlying123 _ w.heap.size j (Al.Dj k1 k2 j) rfl hTz hjn _ _ kl rfl rfl HKEY.out (.lit (.int .i64 0)) [] (plainElem_int Tryz.underlying3 (by decide)) ?_; rw [HPUT.out]; intro w3 hown3 hg3))
            have hb3 : Below w.heap.size w w3 := hbwz.grown hg3 hbwzs (fun q hq => by cases hq; exact Nat.le_refl _)
            have hS3 := hSz.grown hg3 (fun q hq e9 => by have h8 := HVQ.out q hq; injection e9 with e9; omega)
            have kt3 := (hg3.block tb (Array.getElem?_eq_some_iff.1 ktz).1 (fun e9 => by injection e9 with e9; omega)).trans ktz
            go_roundw
            case rel => exact ⟨j + 1, by omega, by go_num, hown3, hS3, kt3, hb3⟩
            case measure => simp [intOf]; omega
          · go_simp
            go_split_ands
            refine hK.out _ _ ?_ (fun hHeld => ?_)
            · exact ⟨Tx.newd _ _, cell_later (Tx.newd _ _) (kc 1)⟩
            clear hK K
            try simp only [Act.put, List.setIfInBounds_toArray, List.set_cons_zero, List.set_cons_succ]
            refine wpAnyH_ready (rs := [3]) (by kernel_rfl) (by simp) ?_
            refine AllReadyH.cons (o := ⟨some 30, _, _, _, _, _⟩) rfl (fun K hK => ?_) AllReadyH.nil
            go_simp
            go_split_ands
            go_at_call 86
            refine (heading_Norm_c x _ hxs HXV.out (hGr.below (Tx.newd _ _))).mono ?_
            rintro e wx ⟨rfl, hbx⟩
            rw [HNX.out]
            go_wp2_with fail
            refine hK.out _ _ ?_ (fun hHeld => ?_)
            · go_split_ands
              exact ⟨Tx.step (by assumption) hbx, cell_later hbx (by assumption)⟩
            clear hK K
            try simp only [Act.put, List.setIfInBounds_toArray, List.set_cons_zero, List.set_cons_succ]
            refine wpAnyH_take (i := 4) (oi := ⟨some 31, _, _, _, _, _⟩) (v := .agg #[.int .i64 3, .string nx]) rfl (by kernel_rfl) (by kernel_rfl) (by kernel_rfl) (fun _ _ _ h => h) (Or.inl ⟨by rfl, ?_⟩) (by assumption) ?_
            · intro w hSw; (try dsimp only at hSw); go_simp
            simp only [Act.put, List.setIfInBounds_toArray, List.set_cons_zero, List.set_cons_succ]
            have kq := Tx.blk_later (show (wr.alloc (.cells #[.int .i64 0, .string ⟨#[]⟩] 128)).drew.heap[wr.heap.size]? = some (.cells #[.int .i64 0, .string ⟨#[]⟩] 128 (0, 0)) from heap_alloc_new wr _) hbx
            obtain ⟨qc, qf, ql⟩ := Tx.blk kq
            refine wpAnyH_ready (rs := [6]) (by kernel_rfl) (by simp) ?_
            refine AllReadyH.cons (o := ⟨none, _, _, _, _, _⟩) rfl (fun K hK => ?_) AllReadyH.nil
            go_simp
            go_split_ands
            have hbw9 : Below wr.heap.size wr wx := by assumption
            have hcx : wx.cell? ⟨tb, 1, none⟩ = some (.int .i64 3) := by assumption
            have htw : wr.heap.size ≠ tb := fun e9 => by have := (Array.getElem?_eq_some_iff.1 ktj).1; omega
            have hbz : Below wr.heap.size wr ((wx.setCell ⟨wr.heap.size, 0, none⟩ (.int .i64 3)).setCell ⟨wr.heap.size, 1, none⟩ (.string nx)) := (hbw9.setCell (Nat.le_refl _) _).setCell (Nat.le_refl _) _
            have hcz : ((wx.setCell ⟨wr.heap.size, 0, none⟩ (.int .i64 3)).setCell ⟨wr.heap.size, 1, none⟩ (.string nx)).cell? ⟨tb, 1, none⟩ = some (.int .i64 3) := by rw [World.cell?_setCell_far _ _ _ _ htw, World.cell?_setCell_far _ _ _ _ htw]; exact hcx
            refine hK.out _ _ ?_ (fun hHeld => ?_)
            · exact ⟨hbz, hcz⟩
            clear hK K hHeld
            try simp only [Act.put, List.setIfInBounds_toArray, List.set_cons_zero, List.set_cons_succ]
            refine wpAnyH_done (by kernel_rfl) ?_ _
            go_split_ands
            have hTz := hTj.below hbz
            have hbwz := Tx.step hbj hbz
            have hbwzs := hbwz.size
            have hSz := hSj.below hbz
            have ktz := Tx.blk_later ktj hbz
            have hjn : j < maxLen := by unfold maxLen; omega
            clear hcz hcx
            go_wp2_with (first
              | (at_lookup; refine wpList_lookup_own_ok_int _ rfl _ _ 123 rfl 128 3 .i64 Al.law_form Tryz.underlying123 Tryz.underlying3 (Al.zero_int _) w.heap.size j (Al.Dj k1 k2 j) rfl hTz _ kl rfl HKEY.out ?_; intro cc hat hwc; rw [HHAS.out])
              | (at_mapUpdate; refine wpList_mapUpdate_own _ rfl _ _ _ 123 rfl 128 3 Al.law_form Tryz.underlying123 _ w.heap.size j (Al.Dj k1 k2 j) rfl hTz hjn _ _ kl rfl rfl HKEY.out (.lit (.int .i64 0)) [] (plainElem_int Tryz.underlying3 (by decide)) ?_; rw [HPUT.out]; intro w3 hown3 hg3))
            have hb3 : Below w.heap.size w w3 := hbwz.grown hg3 hbwzs (fun q hq => by cases hq; exact Nat.le_refl _)
            have hS3 := hSz.grown hg3 (fun q hq e9 => by have h8 := HVQ.out q hq; injection e9 with e9; omega)
            have kt3 := (hg3.block tb (Array.getElem?_eq_some_iff.1 ktz).1 (fun e9 => by injection e9 with e9; omega)).trans ktz
            go_roundw
            case rel => exact ⟨j + 1, by omega, by go_num, hown3, hS3, kt3, hb3⟩
            case measure => simp [intOf]; omega
        · obtain rfl : j = 2 := by omega
          go_wp2
          go_roundw
          case rel => exact ⟨1, Nat.le_refl _, rfl, hTj, hbj⟩
          case measure => simp [intOf]
    · obtain rfl : k = 1 := by omega
      go_wp2
      go_ret2
      exact ⟨rfl, hT, hb⟩
end Go.Proofs.YtlinaeklhkfbcaaGreatDoor

/- The chapter's authority file: an authority found by its number, and by a heading: what the calls return. -/
namespace Go.Proofs.YtlinaeklhkfbcaaGreatDoor
open Go.RowKit Go.Maps
set_option maxRecDepth 100000

theorem Tx.set5 {B g : Nat} {w wr : World} (h : Below B w wr) (hg : B ≤ g) (v0 v1 v2 v3 v4 : Value) :
    Below B w (((((wr.setCell ⟨g, 0, none⟩ v0).setCell ⟨g, 1, none⟩ v1).setCell ⟨g, 2, none⟩ v2).setCell ⟨g, 3, none⟩ v3).setCell ⟨g, 4, none⟩ v4) :=
  (Tx.set4 h hg _ _ _ _).setCell hg _
namespace Al
abbrev auV (bs : Nat) : Value := .agg #[.int .i64 7, .int .i64 3, .string ⟨#[68, 111, 103, 115]⟩, .slice (some ⟨bs, 0, none⟩) 1 1, .slice none 0 0]
end Al
set_option maxHeartbeats 400000 in
theorem place1_al (bs p : Nat) (w : World) (hp : w.cell? ⟨p, 0, none⟩ = some (.int .i64 7)) :
    Calls Tryz.prog 122 #[Al.auV bs, .pointer (some ⟨p, 0, none⟩)] w fun e w' => e = .returned (.bool true) ∧ Below w.heap.size w w' := by
  have hp2 := cell_later (Tx.newb w (.cells #[.int .i64 7, .int .i64 3, .string ⟨#[68, 111, 103, 115]⟩, .slice (some ⟨bs, 0, none⟩) 1 1, .slice none 0 0] 56)) hp
  go_enter Tryz.func122, Tryz.ntmps122
  go_wp2
  go_ret
  exact ⟨rfl, Tx.newb _ _⟩
set_option maxHeartbeats 800000 in
theorem idxAu_al (bl bs p : Nat) (w : World) (h : Al.AuW w bl bs) (hp : w.cell? ⟨p, 0, none⟩ = some (.int .i64 7)) :
    Calls Tryz.prog 121 #[.slice (some ⟨bl, 0, none⟩) 1 1, .func (.func 122) #[] #[.pointer (some ⟨p, 0, none⟩)]] w fun e w' => e = .returned (.int .i64 0) ∧ Below w.heap.size w w' := by
  go_enter Tryz.func121, Tryz.ntmps121
  go_wp2
  go_loopw [5, 8] (fun _ i wr => i = .int .i64 0 ∧ Below w.heap.size w wr) (fun _ _ _ => 0)
  case atStart => exact ⟨rfl, Below.refl _ _⟩
  case round =>
    obtain ⟨rfl, hb⟩ := hrel
    obtain ⟨ac, af, al⟩ := Tx.blk (h.below hb).1
    have hp1 := cell_later hb hp
    go_wp2_with (go_at_call 122; refine (place1_al bs p _ hp1).mono ?_; rintro e w1 ⟨rfl, hb1⟩)
    go_ret
    exact ⟨rfl, Tx.step hb hb1⟩
set_option maxHeartbeats 800000 in
theorem place_al (bl bs : Nat) (w : World) (h : Al.AuW w bl bs) :
    Calls Tryz.prog 88 #[.slice (some ⟨bl, 0, none⟩) 1 1, .int .i64 7] w fun e w' => e = .returned (.int .i64 0) ∧ Below w.heap.size w w' := by
  obtain ⟨W, hW⟩ : ∃ W, w.alloc (.cells #[.int .i64 7] 3) = W := ⟨_, rfl⟩
  have hB : Below w.heap.size w W := by rw [← hW]; exact Tx.newb _ _
  have hp : W.cell? ⟨w.heap.size, 0, none⟩ = some (.int .i64 7) := by rw [← hW]; simp
  have hA := h.below hB
  have HW := Lib.hid hW; clear hW
  go_enter Tryz.func88, Tryz.ntmps88
  go_wp2_with (go_at_call 121; rw [HW.out]; refine (idxAu_al bl bs w.heap.size W hA hp).mono ?_; rintro e w1 ⟨rfl, hb1⟩)
  go_ret
  exact ⟨rfl, Tx.step hB hb1⟩
set_option maxHeartbeats 800000 in
theorem Get_al (bl bs : Nat) (w : World) (h : Al.AuW w bl bs) :
    Calls Tryz.prog 60 #[.slice (some ⟨bl, 0, none⟩) 1 1, .int .i64 7] w fun e w' => e = .returned (.tuple #[Al.auV bs, .bool true]) ∧ Below w.heap.size w w' := by
  obtain ⟨W, hW⟩ : ∃ W, w.alloc (.cells #[.int .i64 0, .int .i64 0, .string ⟨#[]⟩, .slice none 0 0, .slice none 0 0] 56) = W := ⟨_, rfl⟩
  have hB : Below w.heap.size w W := by rw [← hW]; exact Tx.newb _ _
  have kr : W.heap[w.heap.size]? = some (.cells #[.int .i64 0, .int .i64 0, .string ⟨#[]⟩, .slice none 0 0, .slice none 0 0] 56 (0, 0)) := by rw [← hW]; exact heap_alloc_new _ _
  have hA := h.below hB
  have HW := Lib.hid hW; clear hW
  go_enter Tryz.func60, Tryz.ntmps60
  go_wp2_with (go_at_call 88; rw [HW.out]; refine (place_al bl bs W hA).mono ?_; rintro e w1 ⟨rfl, hb1⟩; obtain ⟨rc, rf, rl⟩ := Tx.blk (Tx.blk_later kr hb1); obtain ⟨ac, af, al⟩ := Tx.blk (hA.below hb1).1)
  refine bodyPost_ret (v := .tuple #[Al.auV bs, .bool true]) (by simp [results, Tryz.results60, go_sem, rc]) rfl ⟨rfl, Tx.set5 (Tx.step hB hb1) (Nat.le_refl _) _ _ _ _ _⟩
set_option maxHeartbeats 1600000 in
theorem Find_al (bl bs : Nat) (w : World) (h : Al.AuW w bl bs) (hG : G w) :
    Calls Tryz.prog 59 #[.slice (some ⟨bl, 0, none⟩) 1 1, .int .i64 3, .string Al.hounds] w fun e w' => e = .returned (.tuple #[.int .i64 7, .bool false, .bool true]) ∧ Below w.heap.size w w' := by
  obtain ⟨k1, hk1⟩ := Option.isSome_iff_exists.1 Al.key_dogs
  obtain ⟨k2, hk2⟩ := Option.isSome_iff_exists.1 Al.key_hounds
  have hne : k2 ≠ k1 := fun e => by
    have h1 := Al.law_form.inj hk1 (e ▸ hk2)
    simp [Al.fv, Al.dogs, Al.hounds] at h1
  have hl2 := Al.law_form.key hk2
  have HN1 : Hid ((⟨(Hd.norm Al.hounds.data.toList).toArray⟩ : ByteArray) = Al.hounds) := Lib.hid (by rw [show Al.hounds.data.toList = [104, 111, 117, 110, 100, 115] from rfl, Al.norm_hounds2])
  have HN2 : Hid ((⟨(Hd.norm (⟨#[68, 111, 103, 115]⟩ : ByteArray).data.toList).toArray⟩ : ByteArray) = Al.dogs) := Lib.hid (by rw [show (⟨#[68, 111, 103, 115]⟩ : ByteArray).data.toList = [68, 111, 103, 115] from rfl, Al.norm_dogs])
  have HHAS : Hid (Maps.has (Al.Dj k1 k2 2) k2 = true) := Lib.hid (by
    show Maps.has (((DataW.map []).put k1 (.lit (.int .i64 0))).put k2 (.lit (.int .i64 0)) : DataW Unit) k2 = true
    exact Maps.has_put_same (Maps.isMap_empty.put _ _) hl2 _)
  have HAT : Hid (∀ z, (Al.Dj k1 k2 2).atKey k2 z = .lit (.int .i64 0)) := Lib.hid (fun z => by
    show (((DataW.map []).put k1 (.lit (.int .i64 0))).put k2 (.lit (.int .i64 0)) : DataW Unit).atKey k2 z = _
    exact Maps.atKey_put_same (Maps.isMap_empty.put _ _) hl2 _ _)
  have HK1 := Lib.hid hk1
  have HK2 := Lib.hid hk2
  have HNE := Lib.hid hne
  have HL2 := Lib.hid hl2
  clear hk1 hk2 hne hl2
  have hd1 : (Al.dogs.toList == Al.hounds.toList) = false := by rw [Lib.toList_data, Lib.toList_data]; decide
  have hd2 : Al.hounds.toList.isEmpty = false := by rw [Lib.toList_data]; rfl
  obtain ⟨hd, hhd⟩ : ∃ hd, hd = Al.hounds := ⟨_, rfl⟩
  obtain ⟨dg, hdg⟩ : ∃ dg, dg = Al.dogs := ⟨_, rfl⟩
  have HV : Hid (Tx.valid hd.data.toList = true) := Lib.hid (by rw [hhd]; decide)
  have hsz : hd.size ≤ 1000 := by rw [hhd]; decide
  rw [← hhd] at HN1 HK2 hd1 hd2 ⊢
  rw [← hdg] at HN2 HK1 hd1
  have HHD := Lib.hid hhd
  have HDG := Lib.hid hdg
  clear hhd hdg
  go_enter Tryz.func59, Tryz.ntmps59
  have t1 : True := trivial
  go_wp2_with (first
    | (go_at_call 86; have _t := t1; clear t1 _t; refine (heading_Norm_c hd _ hsz HV.out hG).mono ?_; rintro e w1 ⟨rfl, hb1⟩; rw [HN1.out]; have hA1 := h.below hb1; have hG1 := hG.below hb1)
    | (go_at_call 87; refine (forms_al bl bs _ hA1 hG1 k1 k2 (by rw [← HDG.out]; exact HK1.out) (by rw [← HHD.out]; exact HK2.out) HNE.out).mono ?_; rintro e w2 ⟨rfl, hT2, hb2⟩; have hb12 := Tx.step hb1 hb2)
    | (at_lookup; refine wpList_lookup_own_ok_int _ rfl _ _ 123 rfl 128 3 .i64 Al.law_form Tryz.underlying123 Tryz.underlying3 (Al.zero_int _) w1.heap.size 2 (Al.Dj k1 k2 2) rfl hT2 _ k2 rfl HK2.out ?_; intro cc hat hwc; rw [HHAS.out]; rw [HAT.out] at hat; have hcc : cc = 0 := (by injection hat with hat; injection hat with _ hat; exact hat.symm); subst hcc; clear hat hwc))
  obtain ⟨ac, af, al⟩ := Tx.blk (h.below hb12).1
  have hG2 := hG.below hb12
  have e0 : w2.cell? ⟨bl, 0, none⟩ = some (.int .i64 7) := ac 0
  have e2 : w2.cell? ⟨bl, 2, none⟩ = some (.string ⟨#[68, 111, 103, 115]⟩) := ac 2
  have f1 : (0 : Int) < 1 := by omega
  clear ac af al
  go_region_held3 (fun w' => Below w2.heap.size w2 w' ∧ w'.cell? ⟨bl, 0, none⟩ = some (.int .i64 7) ∧ w'.cell? ⟨bl, 2, none⟩ = some (.string ⟨#[68, 111, 103, 115]⟩))
    (first
      | exact ⟨(Below.refl _ _).drew, e0, e2⟩
      | (go_split_ands; exact ⟨Tx.step (by assumption) hbx, cell_later hbx (by assumption), cell_later hbx (by assumption)⟩))
    (first
      | (go_split_ands; go_at_call 86; refine (heading_Norm_c ⟨#[68, 111, 103, 115]⟩ _ (by decide) (by decide) (hG2.below (by assumption))).mono ?_; rintro e wx ⟨rfl, hbx⟩; rw [HN2.out]))
  go_split_ands
  have hb9 : Below w2.heap.size w2 wx := by assumption
  go_wp2
  go_ret3
  exact ⟨rfl, Tx.step hb12 hb9⟩
end Go.Proofs.YtlinaeklhkfbcaaGreatDoor

/- The chapter's record linked to its authority: what the call returns. -/
namespace Go.Proofs.YtlinaeklhkfbcaaGreatDoor
open Go.RowKit Go.Maps
set_option maxRecDepth 100000

namespace Al
/-- The chapter's subject field. -/
def fh (auth : Int) : Rc.Fl := ⟨⟨#[54, 53, 48]⟩, ⟨#[32, 48]⟩, [(97, hounds)], auth⟩
def fk (k : Nat) : Rc.Fl := if k = 0 then fh 0 else fh 7
theorem kind_650 : Ct.kindOf [54, 53, 48] = 3 := by decide +kernel
theorem fh_good (auth : Int) : Rc.Gd (fh auth) := ⟨by simp [fh], fun x hx => by
  simp [fh] at hx
  subst hx
  exact ⟨by decide, by decide⟩⟩
theorem head_fh (auth : Int) : Ct.headingF (fh auth) = [104, 111, 117, 110, 100, 115] := by
  rw [Ct.heading_3 (f := fh auth) kind_650]
  rfl
theorem one_of {α β : Type} {T : List α} {g : α → β} {y : β} (h : T.map g = [y]) : ∃ t, T = [t] ∧ g t = y := by
  match T, h with
  | [t], h => exact ⟨t, rfl, by simpa using h⟩
end Al
theorem own_set {w : World} {B e size n : Nat} {v : Value} {xs : List Value} (h : w.ownsRow B e size v n xs) (p : Addr) (u : Value) (hne : ∀ g, v.ownBlock = some g → g ≠ p.block) : (w.setCell p u).ownsRow B e size v n xs := by
  refine ⟨h.1, ?_⟩
  rcases h.2 with h1 | ⟨g, cap, cur, rfl, h2, h3, h4⟩
  · exact .inl h1
  · exact .inr ⟨g, cap, cur, rfl, h2, (Below.heap_setCell _ _ _ _ (hne g rfl)).trans h3, h4⟩
set_option maxHeartbeats 3200000 in
theorem Link_al (bl bs : Nat) (id ver kind : Int) (lang : ByteArray) (a : Option Addr) (c : Nat) (w : World) (h : Al.AuW w bl bs) (hG : G w) (hS : Ct.StdW w) (hF : Rc.FldA w a c [Al.fh 0]) :
    Calls Tryz.prog 28 #[.slice (some ⟨bl, 0, none⟩) 1 1, .agg #[.int .i64 id, .int .i64 ver, .int .i64 kind, .string lang, .slice a 1 c]] w fun e w' => ∃ va vc, e = .returned (.agg #[.int .i64 id, .int .i64 ver, .int .i64 kind, .string lang, .slice va 1 vc]) ∧ Rc.FldA w' va vc [Al.fh 7] ∧ Below w.heap.size w w' := by
  obtain ⟨T, hT1, hFA0, hTS⟩ := hF.fa
  obtain ⟨t, rfl, ht1⟩ := Al.one_of hT1
  obtain ⟨tf, sa, sc⟩ := t
  have ht2 : tf = Al.fh 0 := ht1
  subst ht2
  have hsub := hTS (Al.fh 0, sa, sc) (by simp)
  have hml : maxLen = 9223372036854775807 := rfl
  obtain ⟨W, hW⟩ : ∃ W, (w.alloc (.cells #[.int .i64 id, .int .i64 ver, .int .i64 kind, .string lang, .slice a 1 c] 38)).alloc (.cells #[.int .i64 0, .int .i64 0, .int .i64 0, .string ⟨#[]⟩, .slice none 0 0] 38) = W := ⟨_, rfl⟩
  have hB : Below w.heap.size w W := by rw [← hW]; exact (Tx.newb _ _).alloc (Tx.newb w _).size _
  have hWs : W.heap.size = w.heap.size + 2 := by rw [← hW]; simp
  have kr : W.heap[w.heap.size + 1]? = some (.cells #[.int .i64 0, .int .i64 0, .int .i64 0, .string ⟨#[]⟩, .slice none 0 0] 38 (0, 0)) := by
    rw [← hW]
    have := heap_alloc_new (w.alloc (.cells #[.int .i64 id, .int .i64 ver, .int .i64 kind, .string lang, .slice a 1 c] 38)) (.cells #[.int .i64 0, .int .i64 0, .int .i64 0, .string ⟨#[]⟩, .slice none 0 0] 38)
    simpa using this
  have kb : W.heap[w.heap.size]? = some (.cells #[.int .i64 id, .int .i64 ver, .int .i64 kind, .string lang, .slice a 1 c] 38 (0, 0)) := by
    rw [← hW, Below.heap_alloc _ _ _ (by simp)]
    exact heap_alloc_new w _
  have HW := Lib.hid hW; clear hW
  have hFW := hFA0.below hB
  have hWl : w.heap.size + 2 ≤ W.heap.size := by omega
  have HWs := Lib.hid hWs; clear hWs hT1 ht1 hTS
  go_enter Tryz.func28, Tryz.ntmps28
  go_upto_region 2 with (go_at_call 39; rw [HW.out]; refine (CloneFld_c Rc.encF_len Rc.f_one [(Al.fh 0, sa, sc)] a c W hFW (by simp)).mono ?_; rintro e w3 ⟨v2, rfl, hown3, hb3⟩; obtain ⟨va, vc, rfl, hFf, hvg⟩ := Br.FA.of_own Rc.encF_len hown3 rfl; obtain ⟨bc, bf, bl3⟩ := Tx.blk (Tx.blk_later kb hb3); obtain ⟨rc, rf, rl⟩ := Tx.blk (Tx.blk_later kr hb3))
  have hgb : ∀ q, (Value.slice va 1 vc).ownBlock = some q → q ≠ w.heap.size := fun q hq e9 => by
    have h9 := (hown3.lt q hq).1
    omega
  have hown5 := own_set hown3 ⟨w.heap.size, 4, none⟩ (.slice va 1 vc) hgb
  have hBw5 : Below w.heap.size w (w3.setCell ⟨w.heap.size, 4, none⟩ (.slice va 1 vc)) := (Tx.step hB hb3).setCell (Nat.le_refl _) _
  have hb3s := hb3.size
  have hlo5 : w.heap.size + 2 ≤ (w3.setCell ⟨w.heap.size, 4, none⟩ (.slice va 1 vc)).heap.size := by simp; omega
  have b0 : (w3.setCell ⟨w.heap.size, 4, none⟩ (.slice va 1 vc)).cell? ⟨w.heap.size, 0, none⟩ = some (.int .i64 id) := by go_simp
  have b1 : (w3.setCell ⟨w.heap.size, 4, none⟩ (.slice va 1 vc)).cell? ⟨w.heap.size, 1, none⟩ = some (.int .i64 ver) := by go_simp
  have b2 : (w3.setCell ⟨w.heap.size, 4, none⟩ (.slice va 1 vc)).cell? ⟨w.heap.size, 2, none⟩ = some (.int .i64 kind) := by go_simp
  have b3 : (w3.setCell ⟨w.heap.size, 4, none⟩ (.slice va 1 vc)).cell? ⟨w.heap.size, 3, none⟩ = some (.string lang) := by go_simp
  have b4 : (w3.setCell ⟨w.heap.size, 4, none⟩ (.slice va 1 vc)).cell? ⟨w.heap.size, 4, none⟩ = some (.slice va 1 vc) := by go_simp
  have kr5 := (Below.heap_setCell w3 ⟨w.heap.size, 4, none⟩ (.slice va 1 vc) (w.heap.size + 1) (by simp)).trans (Tx.blk_later kr hb3)
  have hWs5 : W.heap.size ≤ (w3.setCell ⟨w.heap.size, 4, none⟩ (.slice va 1 vc)).heap.size := by simp; omega
  generalize w3.setCell ⟨w.heap.size, 4, none⟩ (.slice va 1 vc) = w5 at hown5 hBw5 hlo5 b0 b1 b2 b3 b4 kr5 hWs5 ⊢
  clear hown3 hb3 bc bf bl3 rc rf rl hb3s hFf hgb kb kr hFW
  obtain ⟨g, rfl⟩ : ∃ g, va = some ⟨g, 0, none⟩ := by
    rcases hown5.2 with ⟨_, h7⟩ | ⟨g, _, _, h7, _⟩
    · simp at h7
    · injection h7 with h7
      exact ⟨g, h7⟩
  have hgl := hown5.lt g rfl
  go_wp2
  go_loopw [18] (fun i wr => ∃ k : Nat, k ≤ 1 ∧ i = .int .i64 k ∧ wr.ownsRow W.heap.size 24 4 (.slice (some ⟨g, 0, none⟩) 1 vc) 1 (Rc.encF (Al.fk k, sa, sc)) ∧ Below W.heap.size w5 wr) (fun i _ => 1 - (intOf i).toNat)
  case atStart => exact ⟨0, Nat.zero_le _, rfl, hown5, Below.refl _ _⟩
  case round =>
    obtain ⟨k, hk, rfl, hown, hb⟩ := hrel
    have hbs := hb.size
    have hWs5' : W.heap.size ≤ wr.heap.size := Nat.le_trans hWs5 hbs
    have hbw : Below w.heap.size w wr := ⟨hb.os.trans hBw5.os, hb.tape.trans hBw5.tape, hb.output.trans hBw5.output, by have := hBw5.size; omega, fun q hq => (hb.block q (by omega)).trans (hBw5.block q hq)⟩
    have d0 := (hb.cell (p := ⟨w.heap.size, 0, none⟩) (by show w.heap.size < _; omega)).trans b0
    have d1 := (hb.cell (p := ⟨w.heap.size, 1, none⟩) (by show w.heap.size < _; omega)).trans b1
    have d2 := (hb.cell (p := ⟨w.heap.size, 2, none⟩) (by show w.heap.size < _; omega)).trans b2
    have d3 := (hb.cell (p := ⟨w.heap.size, 3, none⟩) (by show w.heap.size < _; omega)).trans b3
    have d4 := (hb.cell (p := ⟨w.heap.size, 4, none⟩) (by show w.heap.size < _; omega)).trans b4
    have krr := (hb.block (w.heap.size + 1) (by omega)).trans kr5
    by_cases hlt : k < 1
    · obtain rfl : k = 0 := by omega
      have e0 : wr.cell? ⟨g, 0, none⟩ = some (.string ⟨#[54, 53, 48]⟩) := by rw [hown.cellAt 0 (by omega)]; rfl
      have e1 : wr.cell? ⟨g, 1, none⟩ = some (.string ⟨#[32, 48]⟩) := by rw [hown.cellAt 1 (by omega)]; rfl
      have e2 : wr.cell? ⟨g, 2, none⟩ = some (.slice sa 1 sc) := by rw [hown.cellAt 2 (by omega)]; rfl
      have e3 : wr.cell? ⟨g, 3, none⟩ = some (.int .i64 0) := by rw [hown.cellAt 3 (by omega)]; rfl
      have hSr := hS.below hbw
      have hGr := hG.below hbw
      have hAr := h.below hbw
      have hsr := hsub.below hbw
      have hne := Tx.newb wr (.cells #[.string ⟨#[54, 53, 48]⟩, .string ⟨#[32, 48]⟩, .slice sa 1 sc, .int .i64 0] 24)
      have HK : Hid (Ct.kindOf (⟨#[54, 53, 48]⟩ : ByteArray).data.toList = 3) := Lib.hid Al.kind_650
      have HH : Hid ((⟨(Ct.headingF (Al.fh 0)).toArray⟩ : ByteArray) = Al.hounds) := Lib.hid (by rw [Al.head_fh])
      have hownn := hown.alloc (.cells #[.string ⟨#[54, 53, 48]⟩, .string ⟨#[32, 48]⟩, .slice sa 1 sc, .int .i64 0] 24)
      have hbn := hb.alloc hWs5' (.cells #[.string ⟨#[54, 53, 48]⟩, .string ⟨#[32, 48]⟩, .slice sa 1 sc, .int .i64 0] 24)
      go_wp2_with (first
        | (go_at_call 25; refine (control_Kind_c ⟨#[54, 53, 48]⟩ _ (hSr.below hne)).mono ?_; rintro e w6 ⟨rfl, hb6⟩; rw [HK.out]; obtain ⟨fc, ff, fl⟩ := Tx.blk (Tx.fresh hb6); have hn6 := Tx.step hne hb6)
        | (go_at_call 26; refine (control_Heading_c (Al.fh 0) sa sc _ (hSr.below hn6) (hsr.below hn6) (Al.fh_good 0)).mono ?_; rintro e w7 ⟨rfl, hb7⟩; rw [HH.out]; have hn7 := Tx.step hn6 hb7)
        | (go_at_call 59; refine (Find_al bl bs _ (hAr.below hn7) (hGr.below hn7)).mono ?_; rintro e w8 ⟨rfl, hb8⟩; have hn8 := Tx.step hn7 hb8; have hn8s := hn8.size; have f4 := cell_later hn8 d4; have hown8 := own_below hown hn8; have hz8 := hown8.frozenAt 3; have g3 := cell_later hn8 e3))
      obtain ⟨hown9, hg9⟩ := hown8.stored 3 (.int .i64 7)
      have hb9 : Below W.heap.size w5 (w8.setCell ⟨g, 3, none⟩ (.int .i64 7)) := (hb.trans (hn8.mono hWs5')).setCell hgl.1 _
      go_roundw
      case rel => exact ⟨1, Nat.le_refl _, rfl, hown9, hb9⟩
      case measure => simp [intOf]
    · obtain rfl : k = 1 := by omega
      obtain ⟨rc, rf, rl⟩ := Tx.blk krr
      go_wp2
      refine bodyPost_ret (v := .agg #[.int .i64 id, .int .i64 ver, .int .i64 kind, .string lang, .slice (some ⟨g, 0, none⟩) 1 vc]) (by simp [results, Tryz.results28, go_sem, rc]) rfl ⟨_, _, rfl, ?_, Tx.set5 hbw (Nat.le_succ _) _ _ _ _ _⟩
      have hgn : ∀ q, (Value.slice (some ⟨g, 0, none⟩) 1 vc).ownBlock = some q → q ≠ w.heap.size + 1 := fun q hq e9 => by
        cases hq
        have e8 : g = w.heap.size + 1 := e9
        omega
      have hownF := own_set (own_set (own_set (own_set (own_set hown ⟨w.heap.size + 1, 0, none⟩ (.int .i64 id) hgn) ⟨w.heap.size + 1, 1, none⟩ (.int .i64 ver) hgn) ⟨w.heap.size + 1, 2, none⟩ (.int .i64 kind) hgn) ⟨w.heap.size + 1, 3, none⟩ (.string lang) hgn) ⟨w.heap.size + 1, 4, none⟩ (.slice (some ⟨g, 0, none⟩) 1 vc) hgn
      obtain ⟨xa, xc, e1, hFx⟩ := Rc.FldA.of_own (T := [(Al.fh 7, sa, sc)]) hownF rfl (fun t ht => by
        simp at ht
        subst ht
        exact hsub.below (Tx.set5 hbw (Nat.le_succ _) _ _ _ _ _))
      injection e1 with e1 e2 e3
      subst e1 e3
      exact hFx
end Go.Proofs.YtlinaeklhkfbcaaGreatDoor

/- The chapter's record with the present heading: what the call returns. -/
namespace Go.Proofs.YtlinaeklhkfbcaaGreatDoor
open Go.RowKit Go.Maps
set_option maxRecDepth 100000

namespace Al
def fd : Rc.Fl := ⟨⟨#[54, 53, 48]⟩, ⟨#[32, 48]⟩, [(97, ⟨#[68, 111, 103, 115]⟩)], 7⟩
def gk (k : Nat) : Rc.Fl := if k = 0 then fh 7 else fd
theorem put_fd : Ct.putF (fh 7) [68, 111, 103, 115] = fd := by
  rw [Ct.putF_subs (f := fh 7) kind_650 (by decide), Ct.heads_3]
  have h1 : Hd.parts [68, 111, 103, 115] = [[68, 111, 103, 115]] := by decide +kernel
  rw [h1]
  rfl
end Al
set_option maxHeartbeats 3200000 in
theorem Follow_al (bl bs : Nat) (id ver kind : Int) (lang : ByteArray) (a : Option Addr) (c : Nat) (w : World) (h : Al.AuW w bl bs) (hG : G w) (hS : Ct.StdW w) (hF : Rc.FldA w a c [Al.fh 7]) :
    Calls Tryz.prog 29 #[.slice (some ⟨bl, 0, none⟩) 1 1, .agg #[.int .i64 id, .int .i64 ver, .int .i64 kind, .string lang, .slice a 1 c]] w fun e w' => ∃ va vc, e = .returned (.agg #[.int .i64 id, .int .i64 ver, .int .i64 kind, .string lang, .slice va 1 vc]) ∧ Rc.FldA w' va vc [Al.fd] ∧ Below w.heap.size w w' := by
  obtain ⟨T, hT1, hFA0, hTS⟩ := hF.fa
  obtain ⟨t, rfl, ht1⟩ := Al.one_of hT1
  obtain ⟨tf, sa, sc⟩ := t
  have ht2 : tf = Al.fh 7 := ht1
  subst ht2
  have hsub := hTS (Al.fh 7, sa, sc) (by simp)
  have hml : maxLen = 9223372036854775807 := rfl
  obtain ⟨W, hW⟩ : ∃ W, (w.alloc (.cells #[.int .i64 id, .int .i64 ver, .int .i64 kind, .string lang, .slice a 1 c] 38)).alloc (.cells #[.int .i64 0, .int .i64 0, .int .i64 0, .string ⟨#[]⟩, .slice none 0 0] 38) = W := ⟨_, rfl⟩
  have hB : Below w.heap.size w W := by rw [← hW]; exact (Tx.newb _ _).alloc (Tx.newb w _).size _
  have hWs : W.heap.size = w.heap.size + 2 := by rw [← hW]; simp
  have kr : W.heap[w.heap.size + 1]? = some (.cells #[.int .i64 0, .int .i64 0, .int .i64 0, .string ⟨#[]⟩, .slice none 0 0] 38 (0, 0)) := by
    rw [← hW]
    have := heap_alloc_new (w.alloc (.cells #[.int .i64 id, .int .i64 ver, .int .i64 kind, .string lang, .slice a 1 c] 38)) (.cells #[.int .i64 0, .int .i64 0, .int .i64 0, .string ⟨#[]⟩, .slice none 0 0] 38)
    simpa using this
  have kb : W.heap[w.heap.size]? = some (.cells #[.int .i64 id, .int .i64 ver, .int .i64 kind, .string lang, .slice a 1 c] 38 (0, 0)) := by
    rw [← hW, Below.heap_alloc _ _ _ (by simp)]
    exact heap_alloc_new w _
  have HW := Lib.hid hW; clear hW
  have hFW := hFA0.below hB
  have hWl : w.heap.size + 2 ≤ W.heap.size := by omega
  have HWs := Lib.hid hWs; clear hWs hT1 ht1 hTS
  go_enter Tryz.func29, Tryz.ntmps29
  go_upto_region 2 with (go_at_call 39; rw [HW.out]; refine (CloneFld_c Rc.encF_len Rc.f_one [(Al.fh 7, sa, sc)] a c W hFW (by simp)).mono ?_; rintro e w3 ⟨v2, rfl, hown3, hb3⟩; obtain ⟨va, vc, rfl, hFf, hvg⟩ := Br.FA.of_own Rc.encF_len hown3 rfl; obtain ⟨bc, bf, bl3⟩ := Tx.blk (Tx.blk_later kb hb3); obtain ⟨rc, rf, rl⟩ := Tx.blk (Tx.blk_later kr hb3))
  have hgb : ∀ q, (Value.slice va 1 vc).ownBlock = some q → q ≠ w.heap.size := fun q hq e9 => by
    have h9 := (hown3.lt q hq).1
    omega
  have hown5 := own_set hown3 ⟨w.heap.size, 4, none⟩ (.slice va 1 vc) hgb
  have hBw5 : Below w.heap.size w (w3.setCell ⟨w.heap.size, 4, none⟩ (.slice va 1 vc)) := (Tx.step hB hb3).setCell (Nat.le_refl _) _
  have hb3s := hb3.size
  have hlo5 : w.heap.size + 2 ≤ (w3.setCell ⟨w.heap.size, 4, none⟩ (.slice va 1 vc)).heap.size := by simp; omega
  have b0 : (w3.setCell ⟨w.heap.size, 4, none⟩ (.slice va 1 vc)).cell? ⟨w.heap.size, 0, none⟩ = some (.int .i64 id) := by go_simp
  have b1 : (w3.setCell ⟨w.heap.size, 4, none⟩ (.slice va 1 vc)).cell? ⟨w.heap.size, 1, none⟩ = some (.int .i64 ver) := by go_simp
  have b2 : (w3.setCell ⟨w.heap.size, 4, none⟩ (.slice va 1 vc)).cell? ⟨w.heap.size, 2, none⟩ = some (.int .i64 kind) := by go_simp
  have b3 : (w3.setCell ⟨w.heap.size, 4, none⟩ (.slice va 1 vc)).cell? ⟨w.heap.size, 3, none⟩ = some (.string lang) := by go_simp
  have b4 : (w3.setCell ⟨w.heap.size, 4, none⟩ (.slice va 1 vc)).cell? ⟨w.heap.size, 4, none⟩ = some (.slice va 1 vc) := by go_simp
  have kr5 := (Below.heap_setCell w3 ⟨w.heap.size, 4, none⟩ (.slice va 1 vc) (w.heap.size + 1) (by simp)).trans (Tx.blk_later kr hb3)
  have hWs5 : W.heap.size ≤ (w3.setCell ⟨w.heap.size, 4, none⟩ (.slice va 1 vc)).heap.size := by simp; omega
  generalize w3.setCell ⟨w.heap.size, 4, none⟩ (.slice va 1 vc) = w5 at hown5 hBw5 hlo5 b0 b1 b2 b3 b4 kr5 hWs5 ⊢
  clear hown3 hb3 bc bf bl3 rc rf rl hb3s hFf hgb kb kr hFW
  obtain ⟨g, rfl⟩ : ∃ g, va = some ⟨g, 0, none⟩ := by
    rcases hown5.2 with ⟨_, h7⟩ | ⟨g, _, _, h7, _⟩
    · simp at h7
    · injection h7 with h7
      exact ⟨g, h7⟩
  have hgl := hown5.lt g rfl
  have hsaq : ∀ q, sa = some q → q.block ≠ w.heap.size + 1 := fun q hq e9 => by
    obtain ⟨b', o', h1, _⟩ := hsub.at_
    obtain ⟨ha, hlb⟩ := h1 (by simp [Al.fh])
    rw [hq] at ha
    injection ha with ha
    subst ha
    have e8 : b' = w.heap.size + 1 := e9
    omega
  go_wp2
  go_loopw [17] (fun i wr => ∃ (k : Nat) (pa : Option Addr) (pc : Nat), k ≤ 1 ∧ i = .int .i64 k ∧ wr.ownsRow W.heap.size 24 4 (.slice (some ⟨g, 0, none⟩) 1 vc) 1 (Rc.encF (Al.gk k, pa, pc)) ∧ Rc.SubA wr pa pc (Al.gk k).subs ∧ Hid (∀ q, pa = some q → q.block ≠ w.heap.size + 1) ∧ Below W.heap.size w5 wr) (fun i _ => 1 - (intOf i).toNat)
  case atStart => exact ⟨0, sa, sc, Nat.zero_le _, rfl, hown5, hsub.below hBw5, Lib.hid hsaq, Below.refl _ _⟩
  case round =>
    obtain ⟨k, pa, pc, hk, rfl, hown, hsr, hpq, hb⟩ := hrel
    have hbs := hb.size
    have hWs5' : W.heap.size ≤ wr.heap.size := Nat.le_trans hWs5 hbs
    have hbw : Below w.heap.size w wr := ⟨hb.os.trans hBw5.os, hb.tape.trans hBw5.tape, hb.output.trans hBw5.output, by have := hBw5.size; omega, fun q hq => (hb.block q (by omega)).trans (hBw5.block q hq)⟩
    have d0 := (hb.cell (p := ⟨w.heap.size, 0, none⟩) (by show w.heap.size < _; omega)).trans b0
    have d1 := (hb.cell (p := ⟨w.heap.size, 1, none⟩) (by show w.heap.size < _; omega)).trans b1
    have d2 := (hb.cell (p := ⟨w.heap.size, 2, none⟩) (by show w.heap.size < _; omega)).trans b2
    have d3 := (hb.cell (p := ⟨w.heap.size, 3, none⟩) (by show w.heap.size < _; omega)).trans b3
    have d4 := (hb.cell (p := ⟨w.heap.size, 4, none⟩) (by show w.heap.size < _; omega)).trans b4
    have krr := (hb.block (w.heap.size + 1) (by omega)).trans kr5
    by_cases hlt : k < 1
    · obtain rfl : k = 0 := by omega
      have e0 : wr.cell? ⟨g, 0, none⟩ = some (.string ⟨#[54, 53, 48]⟩) := by rw [hown.cellAt 0 (by omega)]; rfl
      have e1 : wr.cell? ⟨g, 1, none⟩ = some (.string ⟨#[32, 48]⟩) := by rw [hown.cellAt 1 (by omega)]; rfl
      have e2 : wr.cell? ⟨g, 2, none⟩ = some (.slice pa 1 pc) := by rw [hown.cellAt 2 (by omega)]; rfl
      have e3 : wr.cell? ⟨g, 3, none⟩ = some (.int .i64 7) := by rw [hown.cellAt 3 (by omega)]; rfl
      have hSr := hS.below hbw
      have hGr := hG.below hbw
      have hAr := h.below hbw
      have hne := Tx.newb wr (.cells #[.string ⟨#[54, 53, 48]⟩, .string ⟨#[32, 48]⟩, .slice pa 1 pc, .int .i64 7] 24)
      have HK : Hid (Ct.kindOf (⟨#[54, 53, 48]⟩ : ByteArray).data.toList = 3) := Lib.hid Al.kind_650
      have HH : Hid ((⟨(Ct.headingF (Al.fh 7)).toArray⟩ : ByteArray) = Al.hounds) := Lib.hid (by rw [Al.head_fh])
      have hsr7 : Rc.SubA wr pa pc (Al.fh 7).subs := hsr
      obtain ⟨hd, hhd⟩ : ∃ hd, hd = Al.hounds := ⟨_, rfl⟩
      have hq : (hd.toList == (⟨#[68, 111, 103, 115]⟩ : ByteArray).toList) = false := by rw [hhd, Lib.toList_data, Lib.toList_data]; decide
      have hq2 : (hd.toList == [68, 111, 103, 115]) = false := by rw [← hq, Lib.toList_data (⟨#[68, 111, 103, 115]⟩ : ByteArray)]
      rw [← hhd] at HH
      clear hhd
      go_upto_region 7 with (first
        | (go_at_call 60; refine (Get_al bl bs _ (hAr.below hne)).mono ?_; rintro e w6 ⟨rfl, hb6⟩; obtain ⟨fc, ff, fl⟩ := Tx.blk (Tx.fresh hb6); have hn6 := Tx.step hne hb6; have kf6 := Tx.fresh hb6; have hn7 := Tx.step hn6 (Tx.newb w6 (.cells #[.int .i64 7, .int .i64 3, .string ⟨#[68, 111, 103, 115]⟩, .slice (some ⟨bs, 0, none⟩) 1 1, .slice none 0 0] 56)))
        | (go_at_call 25; refine (control_Kind_c ⟨#[54, 53, 48]⟩ _ (hSr.below hn7)).mono ?_; rintro e w8 ⟨rfl, hb8⟩; rw [HK.out]; have ka := Tx.fresh hb8; have kf := Tx.keep kf6 hb8; have hn8 := Tx.step hn7 hb8))
      obtain ⟨ac, af, al⟩ := Tx.blk ka
      obtain ⟨fc8, ff8, fl8⟩ := Tx.blk kf
      have hn8s := hn8.size
      have j0 : w8.cell? ⟨wr.heap.size, 0, none⟩ = some (.string ⟨#[54, 53, 48]⟩) := fc8 0
      have j1 : w8.cell? ⟨wr.heap.size, 1, none⟩ = some (.string ⟨#[32, 48]⟩) := fc8 1
      have j2 : w8.cell? ⟨wr.heap.size, 2, none⟩ = some (.slice pa 1 pc) := fc8 2
      have j3 : w8.cell? ⟨wr.heap.size, 3, none⟩ = some (.int .i64 7) := fc8 3
      have j4 : w8.cell? ⟨w6.heap.size, 1, none⟩ = some (.int .i64 3) := ac 1
      have j5 : w8.cell? ⟨w6.heap.size, 2, none⟩ = some (.string ⟨#[68, 111, 103, 115]⟩) := ac 2
      have hS8 := hSr.below hn8
      have hs8 := hsr7.below hn8
      clear ac af al fc8 ff8 fl8 fc ff fl
      go_region_held3 (fun w' => Below w8.heap.size w8 w' ∧ w'.cell? ⟨wr.heap.size, 0, none⟩ = some (.string ⟨#[54, 53, 48]⟩) ∧ w'.cell? ⟨wr.heap.size, 1, none⟩ = some (.string ⟨#[32, 48]⟩) ∧ w'.cell? ⟨wr.heap.size, 2, none⟩ = some (.slice pa 1 pc) ∧ w'.cell? ⟨wr.heap.size, 3, none⟩ = some (.int .i64 7) ∧ w'.cell? ⟨w6.heap.size, 1, none⟩ = some (.int .i64 3) ∧ w'.cell? ⟨w6.heap.size, 2, none⟩ = some (.string ⟨#[68, 111, 103, 115]⟩))
        (first
          | exact ⟨(Below.refl _ _).drew, j0, j1, j2, j3, j4, j5⟩
          | (go_split_ands; exact ⟨Tx.step (by assumption) hbx, cell_later hbx (by assumption), cell_later hbx (by assumption), cell_later hbx (by assumption), cell_later hbx (by assumption), cell_later hbx (by assumption), cell_later hbx (by assumption)⟩))
        (first
          | (go_split_ands; go_at_call 26; refine (control_Heading_c (Al.fh 7) pa pc _ (hS8.below (by assumption)) (hs8.below (by assumption)) (Al.fh_good 7)).mono ?_; rintro e wx ⟨rfl, hbx⟩; rw [HH.out]))
      go_split_ands
      have hb9 : Below w8.heap.size w8 wx := by assumption
      have hn9 := Tx.step hn8 hb9
      have l0 := cell_later hb9 j0
      have l1 := cell_later hb9 j1
      have l2 := cell_later hb9 j2
      have l3 := cell_later hb9 j3
      have l5 := cell_later hb9 j5
      have l6 := cell_later hn9 d4
      generalize wx = w9 at *
      have hG9 := hGr.below hn9
      have hS9 := hSr.below hn9
      have hs9 := hsr7.below hn9
      have hown9 := own_below hown hn9
      have hg9 := hown9.lt g rfl
      clear j0 j1 j2 j3 j4 j5 hb9 hS8 hs8
      go_wp2
      refine wp_region_held_drew (S := (fun w' => w'.cell? ⟨w.heap.size, 4, none⟩ = some (.slice (some ⟨g, 0, none⟩) 1 vc) ∧ w'.cell? ⟨wr.heap.size, 0, none⟩ = some (.string ⟨#[54, 53, 48]⟩) ∧ w'.cell? ⟨wr.heap.size, 1, none⟩ = some (.string ⟨#[32, 48]⟩) ∧ w'.cell? ⟨wr.heap.size, 2, none⟩ = some (.slice pa 1 pc) ∧ w'.cell? ⟨wr.heap.size, 3, none⟩ = some (.int .i64 7) ∧ w'.cell? ⟨w6.heap.size, 2, none⟩ = some (.string ⟨#[68, 111, 103, 115]⟩))) (by kernel_rfl) ?_ (fun hHeld => ?_)
      · exact ⟨l6, l0, l1, l2, l3, l5⟩
      refine wpAnyH_take (i := 0) (oi := ⟨some 50, _, _, _, _, _⟩) (v := .pointer (some ⟨w.heap.size, 4, none⟩)) rfl (by kernel_rfl) (by kernel_rfl) (by kernel_rfl) (fun _ _ _ h => h) (Or.inl ⟨by rfl, ?_⟩) (by assumption) ?_
      · intro w hSw; (try dsimp only at hSw); go_simp
      simp only [Act.put, List.setIfInBounds_toArray, List.set_cons_zero, List.set_cons_succ]
      refine wpAnyH_take (i := 1) (oi := ⟨some 51, _, _, _, _, _⟩) (v := .slice (some ⟨g, 0, none⟩) 1 vc) rfl (by kernel_rfl) (by kernel_rfl) (by kernel_rfl) (fun _ _ _ h => h) (Or.inl ⟨by rfl, ?_⟩) (by assumption) ?_
      · intro w hSw; (try dsimp only at hSw); go_simp
      simp only [Act.put, List.setIfInBounds_toArray, List.set_cons_zero, List.set_cons_succ]
      refine wpAnyH_take (i := 2) (oi := ⟨some 52, _, _, _, _, _⟩) (v := .int .i64 0) rfl (by kernel_rfl) (by kernel_rfl) (by kernel_rfl) (fun _ _ _ h => h) (Or.inl ⟨by rfl, ?_⟩) (by assumption) ?_
      · intro w hSw; (try dsimp only at hSw); go_simp
      simp only [Act.put, List.setIfInBounds_toArray, List.set_cons_zero, List.set_cons_succ]
      refine wpAnyH_take (i := 3) (oi := ⟨some 53, _, _, _, _, _⟩) (v := .agg #[.string ⟨#[54, 53, 48]⟩, .string ⟨#[32, 48]⟩, .slice pa 1 pc, .int .i64 7]) rfl (by kernel_rfl) (by kernel_rfl) (by kernel_rfl) (fun _ _ _ h => h) (Or.inl ⟨by rfl, ?_⟩) (by assumption) ?_
      · intro w hSw; (try dsimp only at hSw); go_simp
      simp only [Act.put, List.setIfInBounds_toArray, List.set_cons_zero, List.set_cons_succ]
      refine wpAnyH_take (i := 4) (oi := ⟨some 54, _, _, _, _, _⟩) (v := .pointer (some ⟨w6.heap.size, 2, none⟩)) rfl (by kernel_rfl) (by kernel_rfl) (by kernel_rfl) (fun _ _ _ h => h) (Or.inl ⟨by rfl, ?_⟩) (by assumption) ?_
      · intro w hSw; (try dsimp only at hSw); go_simp
      simp only [Act.put, List.setIfInBounds_toArray, List.set_cons_zero, List.set_cons_succ]
      refine wpAnyH_take (i := 5) (oi := ⟨some 55, _, _, _, _, _⟩) (v := .string ⟨#[68, 111, 103, 115]⟩) rfl (by kernel_rfl) (by kernel_rfl) (by kernel_rfl) (fun _ _ _ h => h) (Or.inl ⟨by rfl, ?_⟩) (by assumption) ?_
      · intro w hSw; (try dsimp only at hSw); go_simp
      simp only [Act.put, List.setIfInBounds_toArray, List.set_cons_zero, List.set_cons_succ]
      refine wpAnyH_ready (rs := [6]) (by kernel_rfl) (by simp) ?_
      refine AllReadyH.cons (o := ⟨some 56, _, _, _, _, _⟩) rfl (fun K hK => ?_) AllReadyH.nil
      go_simp
      go_split_ands
      go_at_call 11
      refine (control_Put_c (Al.fh 7) pa pc ⟨#[68, 111, 103, 115]⟩ _ (hG9.below (Below.refl _ _).drew) (hS9.below (Below.refl _ _).drew) (hs9.below (Below.refl _ _).drew) (by decide) (by decide) (by decide)).mono ?_
      rw [show Ct.putF (Al.fh 7) (⟨#[68, 111, 103, 115]⟩ : ByteArray).data.toList = Al.fd from Al.put_fd]
      rintro e wx ⟨va2, vc2, rfl, hS2, hbx, hfr⟩
      have hfr2 := hfr (by rw [show Ct.kindOf (Al.fh 7).tag.data.toList = 3 from Al.kind_650]; decide)
      go_wp2_with fail
      refine hK.out _ _ ?_ (fun hHeld => ?_)
      · go_split_ands
        exact ⟨cell_later hbx (by assumption), cell_later hbx (by assumption), cell_later hbx (by assumption), cell_later hbx (by assumption), cell_later hbx (by assumption), cell_later hbx (by assumption)⟩
      clear hK K
      try simp only [Act.put, List.setIfInBounds_toArray, List.set_cons_zero, List.set_cons_succ]
      refine wpAnyH_take (i := 7) (oi := ⟨some 57, _, _, _, _, _⟩) (v := .pointer (some ⟨g, 0, none⟩)) rfl (by kernel_rfl) (by kernel_rfl) (by kernel_rfl) (fun _ _ _ h => h) (Or.inl ⟨by rfl, ?_⟩) (by assumption) ?_
      · intro w hSw; (try dsimp only at hSw); go_simp
      simp only [Act.put, List.setIfInBounds_toArray, List.set_cons_zero, List.set_cons_succ]
      have hby := Tx.undrew hbx
      have m0 := cell_later hby l0
      have m1 := cell_later hby l1
      have m2 := cell_later hby l2
      have m3 := cell_later hby l3
      have m5 := cell_later hby l5
      have m6 := cell_later hby l6
      have hownx := own_below hown9 hby
      have hzx := fun j => hownx.frozenAt j
      have gx0 : wx.cell? ⟨g, 0, none⟩ = some (.string ⟨#[54, 53, 48]⟩) := by rw [hownx.cellAt 0 (by omega)]; rfl
      have gx1 : wx.cell? ⟨g, 1, none⟩ = some (.string ⟨#[32, 48]⟩) := by rw [hownx.cellAt 1 (by omega)]; rfl
      have gx2 : wx.cell? ⟨g, 2, none⟩ = some (.slice pa 1 pc) := by rw [hownx.cellAt 2 (by omega)]; rfl
      have gx3 : wx.cell? ⟨g, 3, none⟩ = some (.int .i64 7) := by rw [hownx.cellAt 3 (by omega)]; rfl
      refine wpAnyH_ready (rs := [8]) (by kernel_rfl) (by simp) ?_
      refine AllReadyH.cons (o := ⟨none, _, _, _, _, _⟩) rfl (fun K hK => ?_) AllReadyH.nil
      go_simp
      go_split_ands
      have t1 : g ≠ w.heap.size := fun e9 => by omega
      have t2 : g ≠ wr.heap.size := fun e9 => by omega
      have t3 : g ≠ w6.heap.size := fun e9 => by have := hb6.size; simp at this; omega
      refine hK.out _ _ ?_ (fun hHeld => ?_)
      · refine ⟨?_, ?_, ?_, ?_, ?_, ?_⟩
        · rw [World.cell?_setCell_far _ _ _ _ t1, World.cell?_setCell_far _ _ _ _ t1, World.cell?_setCell_far _ _ _ _ t1, World.cell?_setCell_far _ _ _ _ t1]; exact m6
        · rw [World.cell?_setCell_far _ _ _ _ t2, World.cell?_setCell_far _ _ _ _ t2, World.cell?_setCell_far _ _ _ _ t2, World.cell?_setCell_far _ _ _ _ t2]; exact m0
        · rw [World.cell?_setCell_far _ _ _ _ t2, World.cell?_setCell_far _ _ _ _ t2, World.cell?_setCell_far _ _ _ _ t2, World.cell?_setCell_far _ _ _ _ t2]; exact m1
        · rw [World.cell?_setCell_far _ _ _ _ t2, World.cell?_setCell_far _ _ _ _ t2, World.cell?_setCell_far _ _ _ _ t2, World.cell?_setCell_far _ _ _ _ t2]; exact m2
        · rw [World.cell?_setCell_far _ _ _ _ t2, World.cell?_setCell_far _ _ _ _ t2, World.cell?_setCell_far _ _ _ _ t2, World.cell?_setCell_far _ _ _ _ t2]; exact m3
        · rw [World.cell?_setCell_far _ _ _ _ t3, World.cell?_setCell_far _ _ _ _ t3, World.cell?_setCell_far _ _ _ _ t3, World.cell?_setCell_far _ _ _ _ t3]; exact m5
      clear hK K hHeld
      try simp only [Act.put, List.setIfInBounds_toArray, List.set_cons_zero, List.set_cons_succ]
      refine wpAnyH_done (by kernel_rfl) ?_ _
      go_split_ands
      obtain ⟨s0, -⟩ := hownx.stored 0 (.string (Al.fh 7).tag)
      obtain ⟨s1, -⟩ := s0.stored 1 (.string (Al.fh 7).ind)
      obtain ⟨s2, -⟩ := s1.stored 2 (.slice va2 Al.fd.subs.length vc2)
      obtain ⟨s3, -⟩ := s2.stored 3 (.int .i64 (Al.fh 7).auth)
      have hxs := (hn9.size : wr.heap.size ≤ w9.heap.size)
      have hys := hby.size
      have hSF : Rc.SubA ((((wx.setCell ⟨g, 0, none⟩ (.string (Al.fh 7).tag)).setCell ⟨g, 1, none⟩ (.string (Al.fh 7).ind)).setCell ⟨g, 2, none⟩ (.slice va2 Al.fd.subs.length vc2)).setCell ⟨g, 3, none⟩ (.int .i64 (Al.fh 7).auth)) va2 vc2 Al.fd.subs := by
        have hnv : ∀ q, va2 = some q → q.block ≠ g := fun q hq e9 => by
          have h7 := hfr2 q hq
          have h8 : w9.heap.size ≤ q.block := h7
          omega
        exact (((hS2.set hnv).set hnv).set hnv).set hnv
      have hpq2 : Hid (∀ q, va2 = some q → q.block ≠ w.heap.size + 1) := Lib.hid (fun q hq e9 => by
        have h7 := hfr2 q hq
        have h8 : w9.heap.size ≤ q.block := h7
        omega)
      have hbF : Below W.heap.size w5 ((((wx.setCell ⟨g, 0, none⟩ (.string (Al.fh 7).tag)).setCell ⟨g, 1, none⟩ (.string (Al.fh 7).ind)).setCell ⟨g, 2, none⟩ (.slice va2 Al.fd.subs.length vc2)).setCell ⟨g, 3, none⟩ (.int .i64 (Al.fh 7).auth)) :=
        Tx.set4 (hb.trans ((Tx.step hn9 hby).mono hWs5')) (show W.heap.size ≤ g by omega) _ _ _ _
      go_wp2
      go_roundw
      case rel => exact ⟨1, va2, vc2, Nat.le_refl _, rfl, s3, hSF, hpq2, hbF⟩
      case measure => simp [intOf]
    · obtain rfl : k = 1 := by omega
      obtain ⟨rc, rf, rl⟩ := Tx.blk krr
      go_wp2
      refine bodyPost_ret (v := .agg #[.int .i64 id, .int .i64 ver, .int .i64 kind, .string lang, .slice (some ⟨g, 0, none⟩) 1 vc]) (by simp [results, Tryz.results29, go_sem, rc]) rfl ⟨_, _, rfl, ?_, Tx.set5 hbw (Nat.le_succ _) _ _ _ _ _⟩
      have hgn : ∀ q, (Value.slice (some ⟨g, 0, none⟩) 1 vc).ownBlock = some q → q ≠ w.heap.size + 1 := fun q hq e9 => by
        cases hq
        have e8 : g = w.heap.size + 1 := e9
        omega
      have hownF := own_set (own_set (own_set (own_set (own_set hown ⟨w.heap.size + 1, 0, none⟩ (.int .i64 id) hgn) ⟨w.heap.size + 1, 1, none⟩ (.int .i64 ver) hgn) ⟨w.heap.size + 1, 2, none⟩ (.int .i64 kind) hgn) ⟨w.heap.size + 1, 3, none⟩ (.string lang) hgn) ⟨w.heap.size + 1, 4, none⟩ (.slice (some ⟨g, 0, none⟩) 1 vc) hgn
      obtain ⟨xa, xc, e1, hFx⟩ := Rc.FldA.of_own (T := [(Al.fd, pa, pc)]) hownF rfl (fun t ht => by
        simp at ht
        subst ht
        have hsr8 : Rc.SubA wr pa pc Al.fd.subs := hsr
        exact ((((hsr8.set hpq.out).set hpq.out).set hpq.out).set hpq.out).set hpq.out)
      injection e1 with e1 e2 e3
      subst e1 e3
      exact hFx
end Go.Proofs.YtlinaeklhkfbcaaGreatDoor
