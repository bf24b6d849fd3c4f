/- The program's tags, its closures over tags, and its picks: what the calls return. -/
import Derived.Test.YtcjalpegffldaaaGreatDoorJi
import Derived.Test.YtcjalpegffldaaaGreatDoorJk
import Derived.Test.YtcjalpegffldaaaGreatDoorJc
import Derived.Test.YtcjalpegffldaaaGreatDoorJe
import Derived.Lib.MapLaws
namespace Go.Proofs.YtcjalpegffldaaaGreatDoor
open Go.RowKit
set_option maxRecDepth 100000

namespace Ix
open Rc
theorem words_take {codes : By} {subs : List (UInt8 × ByteArray)} {k : Nat} {x : UInt8 × ByteArray} (h : subs[k]? = some x) : ((allV (subs.take (k + 1)) codes).flatMap fun s => Tx.words s.data.toList) = ((allV (subs.take k) codes).flatMap fun s => Tx.words s.data.toList) ++ (if hasCode codes x.1 = true then Tx.words x.2.data.toList else []) := by
  rw [allV_take codes h, List.flatMap_append]
  by_cases hp : hasCode codes x.1 = true
  · rw [if_pos hp, if_pos hp]; simp
  · rw [if_neg hp, if_neg hp]; simp
theorem own_words {w : World} {B : Nat} {v : Value} {A ws : List By} {xs : List ByteArray} (h : w.ownsRow B 9 1 v (A.length + xs.length) (A.map Tx.sv ++ xs.map Value.string)) (hx : xs.map (·.data.toList) = ws) : OwnT w B v (A ++ ws) := by
  unfold OwnT
  rw [List.length_append, List.map_append, ← hx, List.length_map, List.map_map]
  exact h
theorem words_le (codes : By) (subs : List (UInt8 × ByteArray)) (k : Nat) : ((allV (subs.take k) codes).flatMap fun s => Tx.words s.data.toList).length ≤ ((allV subs codes).flatMap fun s => Tx.words s.data.toList).length := by
  conv => rhs; rw [← List.take_append_drop k subs]
  unfold allV
  rw [List.filter_append, List.map_append, List.flatMap_append, List.length_append]
  omega
end Ix

set_option maxHeartbeats 400000 in
theorem ix_pre6_c (tag : ByteArray) (w : World) : Calls Tryz.prog 37 #[.string tag] w fun e w' => e = .returned (.bool (Lib.hasPrefix tag.data.toList [54])) ∧ Below w.heap.size w w' := by
  have HP := fun w' => Tryz.strings_HasPrefix tag ⟨#[54]⟩ w'
  change ∀ w', Calls Tryz.prog 38 #[.string tag, .string ⟨#[54]⟩] w' (fun e w'' => e = .returned (.bool (Lib.hasPrefix tag.data.toList [54])) ∧ w'' = w') at HP
  generalize Lib.hasPrefix tag.data.toList [54] = r at HP ⊢
  have HC := Lib.hid HP
  clear HP
  go_enter Tryz.func37, Tryz.ntmps37
  go_wp2_with (go_at_call 38; ((with_reducible refine (HC.out _).mono ?_); rintro e w1 ⟨rfl, rfl⟩))
  go_ret
  exact ⟨rfl, Below.refl _ _⟩

set_option maxHeartbeats 400000 in
theorem ix_pre5_c (tag : ByteArray) (w : World) : Calls Tryz.prog 40 #[.string tag] w fun e w' => e = .returned (.bool (Lib.hasPrefix tag.data.toList [53])) ∧ Below w.heap.size w w' := by
  have HP := fun w' => Tryz.strings_HasPrefix tag ⟨#[53]⟩ w'
  change ∀ w', Calls Tryz.prog 38 #[.string tag, .string ⟨#[53]⟩] w' (fun e w'' => e = .returned (.bool (Lib.hasPrefix tag.data.toList [53])) ∧ w'' = w') at HP
  generalize Lib.hasPrefix tag.data.toList [53] = r at HP ⊢
  have HC := Lib.hid HP
  clear HP
  go_enter Tryz.func40, Tryz.ntmps40
  go_wp2_with (go_at_call 38; ((with_reducible refine (HC.out _).mono ?_); rintro e w1 ⟨rfl, rfl⟩))
  go_ret
  exact ⟨rfl, Below.refl _ _⟩

/-- Tags, as a closure has captured them. -/
structure Ix.Cap (w : World) (bx : Nat) (L : List ByteArray) : Prop where
  h : ∃ (a : Option Addr) (c : Nat), w.cell? ⟨bx, 0, none⟩ = some (.slice a L.length c) ∧ SLA w a c L
  lt : bx < w.heap.size
theorem Ix.Cap.below {w w' : World} {bx : Nat} {L : List ByteArray} (h : Ix.Cap w bx L) (hb : Below w.heap.size w w') : Ix.Cap w' bx L := by
  obtain ⟨a, c, h1, h2⟩ := h.h
  exact ⟨⟨a, c, cell_later hb h1, h2.below hb⟩, Nat.lt_of_lt_of_le h.lt hb.size⟩
set_option maxHeartbeats 400000 in
theorem ix_tag1_c (tag : ByteArray) (bx : Nat) (L : List ByteArray) (w : World) (h : Ix.Cap w bx L) (hne : L ≠ []) : Calls Tryz.prog 69 #[.string tag, .pointer (some ⟨bx, 0, none⟩)] w fun e w' => e = .returned (.bool (Lib.containsS L tag)) ∧ Below w.heap.size w w' := by
  obtain ⟨a, c, c0, hs⟩ := h.h
  obtain ⟨b, o, rfl, hb, hat⟩ := hs.row hne
  have hcap := hs.cap
  have hmax := hs.max
  unfold maxLen at hmax
  have HP := fun w' (hb' : Below w.heap.size w w') => Tryz.slices_Contains_string b o L.length c L tag w' (Nat.le_refl _) (by omega) (fun j hj => cell_later hb' (hat j _ (by rw [List.getElem?_eq_getElem hj, List.getD_eq_getElem?_getD, List.getElem?_eq_getElem hj]; rfl)))
  rw [List.take_length] at HP
  generalize Lib.containsS L tag = r at HP ⊢
  have HC := Lib.hid HP
  clear HP
  go_enter Tryz.func69, Tryz.ntmps69
  go_wp2_with (go_at_call 70; ((with_reducible refine (HC.out _ (Below.refl _ _)).mono ?_); rintro e w1 ⟨rfl, rfl⟩))
  go_ret
  exact ⟨rfl, Below.refl _ _⟩
set_option maxHeartbeats 400000 in
theorem ix_tags_c (L : List ByteArray) (a : Option Addr) (c : Nat) (w : World) (h : SLA w a c L) : Calls Tryz.prog 36 #[.slice a L.length c] w fun e w' => ∃ bx, e = .returned (.func (.func 69) #[] #[.pointer (some ⟨bx, 0, none⟩)]) ∧ Ix.Cap w' bx L ∧ Below w.heap.size w w' := by
  have hmf : ∀ (fn : Fn) (first cap : Array Value) (w : World), (Instr.makeFunc fn first cap).run Tryz.prog w = .ok (.func fn first cap) w := fun _ _ _ _ => rfl
  go_enter Tryz.func36, Tryz.ntmps36
  go_wp2
  go_ret
  exact ⟨w.heap.size, rfl, ⟨⟨a, c, by simp, h.below (Tx.newb _ _)⟩, by simp⟩, Tx.newb _ _⟩

set_option maxHeartbeats 3200000 in
theorem picks_p6_c (fs : List Rc.Fl) (a : Option Addr) (c : Nat) (id ver kind : Int) (lang : ByteArray)  (q : ByteArray → Bool) (p : Rc.Fl → Bool) (hqp : ∀ f, p f = q f.tag) (codes : ByteArray) (hc0 : codes.data.toList ≠ []) (w : World) (hG : G w) (h : Rc.FldA w a c fs) (hM : Ix.Mod fs) (hV : ∀ f ∈ fs, Rc.Gd f)
    (CQ : ∀ w' tag, Below w.heap.size w w' → Calls Tryz.prog 37 #[.string tag] w' fun e w'' => e = .returned (.bool (q tag)) ∧ Below w'.heap.size w' w'') :
    Calls Tryz.prog 35 #[.agg #[.int .i64 id, .int .i64 ver, .int .i64 kind, .string lang, .slice a fs.length c], .func (.func 37) #[] #[], .string codes] w fun e w' => ∃ v, e = .returned v ∧ Ix.OwnT w' w.heap.size v (Ix.pick p codes.data.toList fs) ∧ Below w.heap.size w w' := by
  obtain ⟨i0, hi0, hz0, hz1, hz2⟩ := info_parts info_str
  have HI := Lib.hid hi0; clear hi0
  obtain ⟨W, hW⟩ : ∃ W, w.alloc (.cells #[.int .i64 id, .int .i64 ver, .int .i64 kind, .string lang, .slice a fs.length c] 24) = W := ⟨_, rfl⟩
  have hB : Below w.heap.size w W := by rw [← hW]; exact Tx.newb _ _
  have c4 : W.cell? ⟨w.heap.size, 4, none⟩ = some (.slice a fs.length c) := by rw [← hW]; simp
  have HS := Lib.hid (h.below hB); clear h
  have hlen := hM.len
  have hcap := HS.out.cap
  have hbB := hB.size
  have HCQ := Lib.hid CQ; clear CQ
  have HQP := Lib.hid hqp; clear hqp
  have HV := Lib.hid hV; clear hV
  have hemp : codes.data.toList.isEmpty = false := by simpa using hc0
  have HEMP := Lib.hid hemp
  clear hc0 hemp
  go_enter Tryz.func35, Tryz.ntmps35
  go_wp2
  clear hW
  go_loopw [7, 15] (fun v i wr => ∃ (k : Nat), k ≤ fs.length ∧ i = .int .i64 k ∧ Ix.OwnT wr W.heap.size v (Ix.pick p codes.data.toList (fs.take k)) ∧ Below W.heap.size W wr) (fun _ i _ => fs.length - (intOf i).toNat)
  case atStart => exact ⟨0, Nat.zero_le _, by go_num, World.ownsRow_nil _ _ _ _, Below.refl _ _⟩
  case round =>
    obtain ⟨k, hk, rfl, hown, hb⟩ := hrel
    have hbs := hb.size
    by_cases hlt : k < fs.length
    · obtain ⟨f, hf⟩ : ∃ f, fs[k]? = some f := ⟨_, List.getElem?_eq_getElem hlt⟩
      have hfm := List.mem_of_getElem? hf
      obtain ⟨B, o, sa, sc, rfl, hbl, d0, d1, d2, d3, hsub⟩ := HS.out.get hf
      replace d0 := cell_later hb d0
      replace d1 := cell_later hb d1
      replace d2 := cell_later hb d2
      replace d3 := cell_later hb d3
      have hpt := Ix.pick_take (p := p) (codes := codes.data.toList) hf
      have hpl := Ix.pick_le (p := p) (codes := codes.data.toList) (fs := fs.take k) (fun g hg => hM.words g (List.mem_of_mem_take hg) _)
      rw [List.length_take] at hpl
      have hwf := hM.words f hfm codes.data.toList
      have hsl := hM.subs f hfm
      have HGD := Lib.hid (HV.out f hfm)
      obtain ⟨acc, hacc⟩ : ∃ acc, Ix.pick p codes.data.toList (fs.take k) = acc := ⟨_, rfl⟩
      rw [hacc] at hown hpt hpl
      have hpl2 : acc.length ≤ 20000 := by omega
      clear hpl hacc hf
      obtain ⟨W1, hW1⟩ : ∃ W1, wr.alloc (.cells #[.string f.tag, .string f.ind, .slice sa f.subs.length sc, .int .i64 f.auth] 55) = W1 := ⟨_, rfl⟩
      have hb1 : Below wr.heap.size wr W1 := by rw [← hW1]; exact Tx.newb _ _
      have z0 : W1.cell? ⟨wr.heap.size, 0, none⟩ = some (.string f.tag) := by rw [← hW1]; simp
      have z2 : W1.cell? ⟨wr.heap.size, 2, none⟩ = some (.slice sa f.subs.length sc) := by rw [← hW1]; simp
      have HSUB := Lib.hid hsub; clear hsub
      have CQ : Hid (∀ b, q f.tag = b → Calls Tryz.prog 37 #[.string f.tag] W1 fun e w'' => e = .returned (.bool b) ∧ Below W1.heap.size W1 w'') := Lib.hid (fun b hb9 => by rw [← hb9]; exact HCQ.out W1 f.tag (Tx.step hB (Tx.step hb hb1)))
      cases hq : q f.tag with
      | false =>
        rw [if_neg (by rw [HQP.out, hq]; decide), List.append_nil] at hpt
        have HPT := Lib.hid hpt
        have HQ := Lib.hid hq
        clear hpt hq
        go_wp2_with (go_at_call 37; ((with_reducible refine (CQ.out false HQ.out).mono ?_); rintro e w2 ⟨rfl, hb2⟩))
        have hb3 := Tx.step hb1 hb2
        go_roundw
        case rel => exact ⟨k + 1, hlt, by go_num, by rw [HPT.out]; exact own_below hown hb3, Tx.step hb hb3⟩
        case measure => simp [intOf]; omega
      | true =>
        rw [if_pos (by rw [HQP.out, hq])] at hpt
        have HPT := Lib.hid hpt
        have HQ := Lib.hid hq
        clear hpt hq
        have hscap := HSUB.out.cap
        go_wp2_with (go_at_call 37; ((with_reducible refine (CQ.out true HQ.out).mono ?_); rintro e w2 ⟨rfl, hb2⟩; have z3 := cell_later hb2 z2))
        have hb3 := Tx.step hb (Tx.step hb1 hb2)
        have own3 := own_below hown (Tx.step hb1 hb2)
        clear z0 z2 z3 hW1 hown d0 d1 d2 d3
        go_loopw [7, 27] (fun v i wr => ∃ (j : Nat), j ≤ f.subs.length ∧ i = .int .i64 j ∧ Ix.OwnT wr W.heap.size v (acc ++ (Rc.allV (f.subs.take j) codes.data.toList).flatMap fun s => Tx.words s.data.toList) ∧ Below W.heap.size W wr) (fun _ i _ => f.subs.length - (intOf i).toNat)
        case atStart => exact ⟨0, Nat.zero_le _, by go_num, by show Ix.OwnT _ _ _ (acc ++ []); rw [List.append_nil]; exact own3, hb3⟩
        case round =>
          obtain ⟨j, hj, rfl, hown4, hb4⟩ := hrel
          have hb4s := hb4.size
          by_cases hlt2 : j < f.subs.length
          · obtain ⟨x, hx⟩ : ∃ x, f.subs[j]? = some x := ⟨_, List.getElem?_eq_getElem hlt2⟩
            obtain ⟨sb, so, rfl, hsb, x0, x1⟩ := HSUB.out.get hx
            replace x0 := cell_later hb4 x0
            replace x1 := cell_later hb4 x1
            have hxg := HGD.out.2 x (List.mem_of_getElem? hx)
            have hwt := Ix.words_take (codes := codes.data.toList) hx
            have hwl := Ix.words_le codes.data.toList f.subs j
            have hwl2 := Ix.words_le codes.data.toList f.subs (j + 1)
            have hwf2 : ((Rc.allV f.subs codes.data.toList).flatMap fun s => Tx.words s.data.toList).length ≤ 1000 := hwf
            obtain ⟨pr, hpr⟩ : ∃ pr, ((Rc.allV (f.subs.take j) codes.data.toList).flatMap fun s => Tx.words s.data.toList) = pr := ⟨_, rfl⟩
            rw [hwt] at hwl2
            rw [hpr] at hown4 hwt hwl hwl2
            have hix := Rc.indexByte_mem codes.data.toList x.1
            have hhc : Rc.hasCode codes.data.toList x.1 = codes.data.toList.contains x.1 := by unfold Rc.hasCode; rw [HEMP.out, Bool.false_or]
            have hal : (acc ++ pr).length ≤ 21000 := by rw [List.length_append]; omega
            obtain ⟨W2, hW2⟩ : ∃ W2, wr.alloc (.cells #[.int .u8 x.1.toNat, .string x.2] 57) = W2 := ⟨_, rfl⟩
            have hb6 : Below wr.heap.size wr W2 := by rw [← hW2]; exact Tx.newb _ _
            have y0 : W2.cell? ⟨wr.heap.size, 0, none⟩ = some (.int .u8 x.1.toNat) := by rw [← hW2]; simp
            have y1 : W2.cell? ⟨wr.heap.size, 1, none⟩ = some (.string x.2) := by rw [← hW2]; simp
            have own4 := own_below hown4 hb6
            by_cases hm : x.1 ∈ codes.data.toList
            · have hge := hix.2 hm
              rw [if_pos (by rw [hhc]; simpa using hm)] at hwt hwl2
              obtain ⟨ws, hws⟩ : ∃ ws, Tx.words x.2.data.toList = ws := ⟨_, rfl⟩
              rw [hws] at hwt hwl2
              rw [List.length_append] at hwl2
              have HWS := Lib.hid hws
              have HWT := Lib.hid hwt
              obtain ⟨A, hA⟩ : ∃ A, acc ++ pr = A := ⟨_, rfl⟩
              have HA := Lib.hid hA
              rw [hA] at own4 hal
              have CW : Hid (Calls Tryz.prog 68 #[.string x.2] W2 fun e w' => ∃ A xs, e = .returned (.slice (some ⟨A, 0, none⟩) xs.length xs.length) ∧ xs.map (·.data.toList) = ws ∧ SLA w' (some ⟨A, 0, none⟩) xs.length xs ∧ W2.heap.size ≤ A ∧ Below W2.heap.size W2 w') := Lib.hid (by
                rw [← hws]
                exact text_Words_c x.2 W2 (hG.below (Tx.step hB (Tx.step hb4 hb6))) (by have := hxg.1; omega) hxg.2)
              have hwsl : ws.length ≤ 1000 := by omega
              clear hix hhc hwt hwl hwl2 hwf2 hx hpr hm hws hA hxg hown4 hwf hpl2
              go_wp2_with (first
                | (at_builtin; go_must (refine wpList_append_sl rfl _ _ 28 rfl W.heap.size 9 i0 _ 1 16 Tryz.underlying28 HI.out hz0 hz1 hz2 rfl (by decide) _ A.length _ rfl own5 (some ⟨A5, 0, none⟩) xs.length xs.length (xs.map Value.string) rfl (by simp) (fun h9 => by cases h9) (fun ad had => by cases had; exact hs5.out.cells _ rfl) (SLA.ones xs) (by unfold maxLen; have := HK.out; omega) (by have := HK.out; omega) (by omega) ?_); intro v7 w7 hown7 hg7 hnil7)
                | (go_at_call 67; refine (Tryz.strings_IndexByte codes x.1.toNat _).mono ?_; rintro e w4 ⟨rfl, rfl⟩)
                | (go_at_call 68; ((with_reducible refine CW.out.mono ?_); rintro e w5 ⟨A5, xs, rfl, hxs, hs5', hA5, hb7⟩; have hs5 := Lib.hid hs5'; have HXS := Lib.hid hxs; have own5 := own_below own4 hb7; have hb8 := Tx.step hb6 hb7; have hxl : xs.length = ws.length := (by rw [← HXS.out, List.length_map]); have HK : Hid (A.length + xs.length ≤ 22000) := Lib.hid (by rw [hxl]; omega); have hs7 := hb8.size; have HXL := Lib.hid hxl; clear hs5' hxs hxl)))
              have hgA : Below W.heap.size W w7 := (Tx.step hb4 hb8).grown hg7 (by omega) (fun i hi => (own5.lt i hi).1)
              go_roundw
              case rel => exact ⟨j + 1, hlt2, by go_num, by rw [HWT.out, ← List.append_assoc, HA.out]; exact Ix.own_words hown7 HXS.out, hgA⟩
              case measure => simp [intOf]; omega
            · have hge : Lib.indexByte codes.data.toList x.1 < 0 := by
                have h9 : ¬ 0 ≤ Lib.indexByte codes.data.toList x.1 := fun h8 => hm (hix.1 h8)
                omega
              rw [if_neg (by rw [hhc]; simpa using hm), List.append_nil] at hwt
              have HWT := Lib.hid hwt
              clear hix hhc hwt hwl hwl2 hwf2 hx hpr hm hal
              go_wp2_with (go_at_call 67; refine (Tryz.strings_IndexByte codes x.1.toNat _).mono ?_; rintro e w4 ⟨rfl, rfl⟩)
              go_roundw
              case rel => exact ⟨j + 1, hlt2, by go_num, by rw [HWT.out]; exact own4, Tx.step hb4 hb6⟩
              case measure => simp [intOf]; omega
          · obtain rfl : j = f.subs.length := by omega
            rw [List.take_length] at hown4
            go_wp2
            go_roundw
            case rel => exact ⟨k + 1, hlt, by go_num, by rw [HPT.out]; exact hown4, hb4⟩
            case measure => simp [intOf]; omega
    · obtain rfl : k = fs.length := by omega
      rw [List.take_length] at hown
      go_wp2
      go_ret
      exact ⟨_, rfl, Ix.own_lower hown hbB, Tx.step hB hb⟩

set_option maxHeartbeats 3200000 in
theorem picks_p5_c (fs : List Rc.Fl) (a : Option Addr) (c : Nat) (id ver kind : Int) (lang : ByteArray)  (q : ByteArray → Bool) (p : Rc.Fl → Bool) (hqp : ∀ f, p f = q f.tag) (codes : ByteArray) (hc0 : codes.data.toList ≠ []) (w : World) (hG : G w) (h : Rc.FldA w a c fs) (hM : Ix.Mod fs) (hV : ∀ f ∈ fs, Rc.Gd f)
    (CQ : ∀ w' tag, Below w.heap.size w w' → Calls Tryz.prog 40 #[.string tag] w' fun e w'' => e = .returned (.bool (q tag)) ∧ Below w'.heap.size w' w'') :
    Calls Tryz.prog 35 #[.agg #[.int .i64 id, .int .i64 ver, .int .i64 kind, .string lang, .slice a fs.length c], .func (.func 40) #[] #[], .string codes] w fun e w' => ∃ v, e = .returned v ∧ Ix.OwnT w' w.heap.size v (Ix.pick p codes.data.toList fs) ∧ Below w.heap.size w w' := by
  obtain ⟨i0, hi0, hz0, hz1, hz2⟩ := info_parts info_str
  have HI := Lib.hid hi0; clear hi0
  obtain ⟨W, hW⟩ : ∃ W, w.alloc (.cells #[.int .i64 id, .int .i64 ver, .int .i64 kind, .string lang, .slice a fs.length c] 24) = W := ⟨_, rfl⟩
  have hB : Below w.heap.size w W := by rw [← hW]; exact Tx.newb _ _
  have c4 : W.cell? ⟨w.heap.size, 4, none⟩ = some (.slice a fs.length c) := by rw [← hW]; simp
  have HS := Lib.hid (h.below hB); clear h
  have hlen := hM.len
  have hcap := HS.out.cap
  have hbB := hB.size
  have HCQ := Lib.hid CQ; clear CQ
  have HQP := Lib.hid hqp; clear hqp
  have HV := Lib.hid hV; clear hV
  have hemp : codes.data.toList.isEmpty = false := by simpa using hc0
  have HEMP := Lib.hid hemp
  clear hc0 hemp
  go_enter Tryz.func35, Tryz.ntmps35
  go_wp2
  clear hW
  go_loopw [7, 15] (fun v i wr => ∃ (k : Nat), k ≤ fs.length ∧ i = .int .i64 k ∧ Ix.OwnT wr W.heap.size v (Ix.pick p codes.data.toList (fs.take k)) ∧ Below W.heap.size W wr) (fun _ i _ => fs.length - (intOf i).toNat)
  case atStart => exact ⟨0, Nat.zero_le _, by go_num, World.ownsRow_nil _ _ _ _, Below.refl _ _⟩
  case round =>
    obtain ⟨k, hk, rfl, hown, hb⟩ := hrel
    have hbs := hb.size
    by_cases hlt : k < fs.length
    · obtain ⟨f, hf⟩ : ∃ f, fs[k]? = some f := ⟨_, List.getElem?_eq_getElem hlt⟩
      have hfm := List.mem_of_getElem? hf
      obtain ⟨B, o, sa, sc, rfl, hbl, d0, d1, d2, d3, hsub⟩ := HS.out.get hf
      replace d0 := cell_later hb d0
      replace d1 := cell_later hb d1
      replace d2 := cell_later hb d2
      replace d3 := cell_later hb d3
      have hpt := Ix.pick_take (p := p) (codes := codes.data.toList) hf
      have hpl := Ix.pick_le (p := p) (codes := codes.data.toList) (fs := fs.take k) (fun g hg => hM.words g (List.mem_of_mem_take hg) _)
      rw [List.length_take] at hpl
      have hwf := hM.words f hfm codes.data.toList
      have hsl := hM.subs f hfm
      have HGD := Lib.hid (HV.out f hfm)
      obtain ⟨acc, hacc⟩ : ∃ acc, Ix.pick p codes.data.toList (fs.take k) = acc := ⟨_, rfl⟩
      rw [hacc] at hown hpt hpl
      have hpl2 : acc.length ≤ 20000 := by omega
      clear hpl hacc hf
      obtain ⟨W1, hW1⟩ : ∃ W1, wr.alloc (.cells #[.string f.tag, .string f.ind, .slice sa f.subs.length sc, .int .i64 f.auth] 55) = W1 := ⟨_, rfl⟩
      have hb1 : Below wr.heap.size wr W1 := by rw [← hW1]; exact Tx.newb _ _
      have z0 : W1.cell? ⟨wr.heap.size, 0, none⟩ = some (.string f.tag) := by rw [← hW1]; simp
      have z2 : W1.cell? ⟨wr.heap.size, 2, none⟩ = some (.slice sa f.subs.length sc) := by rw [← hW1]; simp
      have HSUB := Lib.hid hsub; clear hsub
      have CQ : Hid (∀ b, q f.tag = b → Calls Tryz.prog 40 #[.string f.tag] W1 fun e w'' => e = .returned (.bool b) ∧ Below W1.heap.size W1 w'') := Lib.hid (fun b hb9 => by rw [← hb9]; exact HCQ.out W1 f.tag (Tx.step hB (Tx.step hb hb1)))
      cases hq : q f.tag with
      | false =>
        rw [if_neg (by rw [HQP.out, hq]; decide), List.append_nil] at hpt
        have HPT := Lib.hid hpt
        have HQ := Lib.hid hq
        clear hpt hq
        go_wp2_with (go_at_call 40; ((with_reducible refine (CQ.out false HQ.out).mono ?_); rintro e w2 ⟨rfl, hb2⟩))
        have hb3 := Tx.step hb1 hb2
        go_roundw
        case rel => exact ⟨k + 1, hlt, by go_num, by rw [HPT.out]; exact own_below hown hb3, Tx.step hb hb3⟩
        case measure => simp [intOf]; omega
      | true =>
        rw [if_pos (by rw [HQP.out, hq])] at hpt
        have HPT := Lib.hid hpt
        have HQ := Lib.hid hq
        clear hpt hq
        have hscap := HSUB.out.cap
        go_wp2_with (go_at_call 40; ((with_reducible refine (CQ.out true HQ.out).mono ?_); rintro e w2 ⟨rfl, hb2⟩; have z3 := cell_later hb2 z2))
        have hb3 := Tx.step hb (Tx.step hb1 hb2)
        have own3 := own_below hown (Tx.step hb1 hb2)
        clear z0 z2 z3 hW1 hown d0 d1 d2 d3
        go_loopw [7, 27] (fun v i wr => ∃ (j : Nat), j ≤ f.subs.length ∧ i = .int .i64 j ∧ Ix.OwnT wr W.heap.size v (acc ++ (Rc.allV (f.subs.take j) codes.data.toList).flatMap fun s => Tx.words s.data.toList) ∧ Below W.heap.size W wr) (fun _ i _ => f.subs.length - (intOf i).toNat)
        case atStart => exact ⟨0, Nat.zero_le _, by go_num, by show Ix.OwnT _ _ _ (acc ++ []); rw [List.append_nil]; exact own3, hb3⟩
        case round =>
          obtain ⟨j, hj, rfl, hown4, hb4⟩ := hrel
          have hb4s := hb4.size
          by_cases hlt2 : j < f.subs.length
          · obtain ⟨x, hx⟩ : ∃ x, f.subs[j]? = some x := ⟨_, List.getElem?_eq_getElem hlt2⟩
            obtain ⟨sb, so, rfl, hsb, x0, x1⟩ := HSUB.out.get hx
            replace x0 := cell_later hb4 x0
            replace x1 := cell_later hb4 x1
            have hxg := HGD.out.2 x (List.mem_of_getElem? hx)
            have hwt := Ix.words_take (codes := codes.data.toList) hx
            have hwl := Ix.words_le codes.data.toList f.subs j
            have hwl2 := Ix.words_le codes.data.toList f.subs (j + 1)
            have hwf2 : ((Rc.allV f.subs codes.data.toList).flatMap fun s => Tx.words s.data.toList).length ≤ 1000 := hwf
            obtain ⟨pr, hpr⟩ : ∃ pr, ((Rc.allV (f.subs.take j) codes.data.toList).flatMap fun s => Tx.words s.data.toList) = pr := ⟨_, rfl⟩
            rw [hwt] at hwl2
            rw [hpr] at hown4 hwt hwl hwl2
            have hix := Rc.indexByte_mem codes.data.toList x.1
            have hhc : Rc.hasCode codes.data.toList x.1 = codes.data.toList.contains x.1 := by unfold Rc.hasCode; rw [HEMP.out, Bool.false_or]
            have hal : (acc ++ pr).length ≤ 21000 := by rw [List.length_append]; omega
            obtain ⟨W2, hW2⟩ : ∃ W2, wr.alloc (.cells #[.int .u8 x.1.toNat, .string x.2] 57) = W2 := ⟨_, rfl⟩
            have hb6 : Below wr.heap.size wr W2 := by rw [← hW2]; exact Tx.newb _ _
            have y0 : W2.cell? ⟨wr.heap.size, 0, none⟩ = some (.int .u8 x.1.toNat) := by rw [← hW2]; simp
            have y1 : W2.cell? ⟨wr.heap.size, 1, none⟩ = some (.string x.2) := by rw [← hW2]; simp
            have own4 := own_below hown4 hb6
            by_cases hm : x.1 ∈ codes.data.toList
            · have hge := hix.2 hm
              rw [if_pos (by rw [hhc]; simpa using hm)] at hwt hwl2
              obtain ⟨ws, hws⟩ : ∃ ws, Tx.words x.2.data.toList = ws := ⟨_, rfl⟩
              rw [hws] at hwt hwl2
              rw [List.length_append] at hwl2
              have HWS := Lib.hid hws
              have HWT := Lib.hid hwt
              obtain ⟨A, hA⟩ : ∃ A, acc ++ pr = A := ⟨_, rfl⟩
              have HA := Lib.hid hA
              rw [hA] at own4 hal
              have CW : Hid (Calls Tryz.prog 68 #[.string x.2] W2 fun e w' => ∃ A xs, e = .returned (.slice (some ⟨A, 0, none⟩) xs.length xs.length) ∧ xs.map (·.data.toList) = ws ∧ SLA w' (some ⟨A, 0, none⟩) xs.length xs ∧ W2.heap.size ≤ A ∧ Below W2.heap.size W2 w') := Lib.hid (by
                rw [← hws]
                exact text_Words_c x.2 W2 (hG.below (Tx.step hB (Tx.step hb4 hb6))) (by have := hxg.1; omega) hxg.2)
              have hwsl : ws.length ≤ 1000 := by omega
              clear hix hhc hwt hwl hwl2 hwf2 hx hpr hm hws hA hxg hown4 hwf hpl2
              go_wp2_with (first
                | (at_builtin; go_must (refine wpList_append_sl rfl _ _ 28 rfl W.heap.size 9 i0 _ 1 16 Tryz.underlying28 HI.out hz0 hz1 hz2 rfl (by decide) _ A.length _ rfl own5 (some ⟨A5, 0, none⟩) xs.length xs.length (xs.map Value.string) rfl (by simp) (fun h9 => by cases h9) (fun ad had => by cases had; exact hs5.out.cells _ rfl) (SLA.ones xs) (by unfold maxLen; have := HK.out; omega) (by have := HK.out; omega) (by omega) ?_); intro v7 w7 hown7 hg7 hnil7)
                | (go_at_call 67; refine (Tryz.strings_IndexByte codes x.1.toNat _).mono ?_; rintro e w4 ⟨rfl, rfl⟩)
                | (go_at_call 68; ((with_reducible refine CW.out.mono ?_); rintro e w5 ⟨A5, xs, rfl, hxs, hs5', hA5, hb7⟩; have hs5 := Lib.hid hs5'; have HXS := Lib.hid hxs; have own5 := own_below own4 hb7; have hb8 := Tx.step hb6 hb7; have hxl : xs.length = ws.length := (by rw [← HXS.out, List.length_map]); have HK : Hid (A.length + xs.length ≤ 22000) := Lib.hid (by rw [hxl]; omega); have hs7 := hb8.size; have HXL := Lib.hid hxl; clear hs5' hxs hxl)))
              have hgA : Below W.heap.size W w7 := (Tx.step hb4 hb8).grown hg7 (by omega) (fun i hi => (own5.lt i hi).1)
              go_roundw
              case rel => exact ⟨j + 1, hlt2, by go_num, by rw [HWT.out, ← List.append_assoc, HA.out]; exact Ix.own_words hown7 HXS.out, hgA⟩
              case measure => simp [intOf]; omega
            · have hge : Lib.indexByte codes.data.toList x.1 < 0 := by
                have h9 : ¬ 0 ≤ Lib.indexByte codes.data.toList x.1 := fun h8 => hm (hix.1 h8)
                omega
              rw [if_neg (by rw [hhc]; simpa using hm), List.append_nil] at hwt
              have HWT := Lib.hid hwt
              clear hix hhc hwt hwl hwl2 hwf2 hx hpr hm hal
              go_wp2_with (go_at_call 67; refine (Tryz.strings_IndexByte codes x.1.toNat _).mono ?_; rintro e w4 ⟨rfl, rfl⟩)
              go_roundw
              case rel => exact ⟨j + 1, hlt2, by go_num, by rw [HWT.out]; exact own4, Tx.step hb4 hb6⟩
              case measure => simp [intOf]; omega
          · obtain rfl : j = f.subs.length := by omega
            rw [List.take_length] at hown4
            go_wp2
            go_roundw
            case rel => exact ⟨k + 1, hlt, by go_num, by rw [HPT.out]; exact hown4, hb4⟩
            case measure => simp [intOf]; omega
    · obtain rfl : k = fs.length := by omega
      rw [List.take_length] at hown
      go_wp2
      go_ret
      exact ⟨_, rfl, Ix.own_lower hown hbB, Tx.step hB hb⟩

set_option maxHeartbeats 3200000 in
theorem picks_tg_c (fs : List Rc.Fl) (a : Option Addr) (c : Nat) (id ver kind : Int) (lang : ByteArray) (bx : Nat) (q : ByteArray → Bool) (p : Rc.Fl → Bool) (hqp : ∀ f, p f = q f.tag) (codes : ByteArray) (hc0 : codes.data.toList ≠ []) (w : World) (hG : G w) (h : Rc.FldA w a c fs) (hM : Ix.Mod fs) (hV : ∀ f ∈ fs, Rc.Gd f)
    (CQ : ∀ w' tag, Below w.heap.size w w' → Calls Tryz.prog 69 #[.string tag, .pointer (some ⟨bx, 0, none⟩)] w' fun e w'' => e = .returned (.bool (q tag)) ∧ Below w'.heap.size w' w'') :
    Calls Tryz.prog 35 #[.agg #[.int .i64 id, .int .i64 ver, .int .i64 kind, .string lang, .slice a fs.length c], .func (.func 69) #[] #[.pointer (some ⟨bx, 0, none⟩)], .string codes] w fun e w' => ∃ v, e = .returned v ∧ Ix.OwnT w' w.heap.size v (Ix.pick p codes.data.toList fs) ∧ Below w.heap.size w w' := by
  obtain ⟨i0, hi0, hz0, hz1, hz2⟩ := info_parts info_str
  have HI := Lib.hid hi0; clear hi0
  obtain ⟨W, hW⟩ : ∃ W, w.alloc (.cells #[.int .i64 id, .int .i64 ver, .int .i64 kind, .string lang, .slice a fs.length c] 24) = W := ⟨_, rfl⟩
  have hB : Below w.heap.size w W := by rw [← hW]; exact Tx.newb _ _
  have c4 : W.cell? ⟨w.heap.size, 4, none⟩ = some (.slice a fs.length c) := by rw [← hW]; simp
  have HS := Lib.hid (h.below hB); clear h
  have hlen := hM.len
  have hcap := HS.out.cap
  have hbB := hB.size
  have HCQ := Lib.hid CQ; clear CQ
  have HQP := Lib.hid hqp; clear hqp
  have HV := Lib.hid hV; clear hV
  have hemp : codes.data.toList.isEmpty = false := by simpa using hc0
  have HEMP := Lib.hid hemp
  clear hc0 hemp
  go_enter Tryz.func35, Tryz.ntmps35
  go_wp2
  clear hW
  go_loopw [7, 15] (fun v i wr => ∃ (k : Nat), k ≤ fs.length ∧ i = .int .i64 k ∧ Ix.OwnT wr W.heap.size v (Ix.pick p codes.data.toList (fs.take k)) ∧ Below W.heap.size W wr) (fun _ i _ => fs.length - (intOf i).toNat)
  case atStart => exact ⟨0, Nat.zero_le _, by go_num, World.ownsRow_nil _ _ _ _, Below.refl _ _⟩
  case round =>
    obtain ⟨k, hk, rfl, hown, hb⟩ := hrel
    have hbs := hb.size
    by_cases hlt : k < fs.length
    · obtain ⟨f, hf⟩ : ∃ f, fs[k]? = some f := ⟨_, List.getElem?_eq_getElem hlt⟩
      have hfm := List.mem_of_getElem? hf
      obtain ⟨B, o, sa, sc, rfl, hbl, d0, d1, d2, d3, hsub⟩ := HS.out.get hf
      replace d0 := cell_later hb d0
      replace d1 := cell_later hb d1
      replace d2 := cell_later hb d2
      replace d3 := cell_later hb d3
      have hpt := Ix.pick_take (p := p) (codes := codes.data.toList) hf
      have hpl := Ix.pick_le (p := p) (codes := codes.data.toList) (fs := fs.take k) (fun g hg => hM.words g (List.mem_of_mem_take hg) _)
      rw [List.length_take] at hpl
      have hwf := hM.words f hfm codes.data.toList
      have hsl := hM.subs f hfm
      have HGD := Lib.hid (HV.out f hfm)
      obtain ⟨acc, hacc⟩ : ∃ acc, Ix.pick p codes.data.toList (fs.take k) = acc := ⟨_, rfl⟩
      rw [hacc] at hown hpt hpl
      have hpl2 : acc.length ≤ 20000 := by omega
      clear hpl hacc hf
      obtain ⟨W1, hW1⟩ : ∃ W1, wr.alloc (.cells #[.string f.tag, .string f.ind, .slice sa f.subs.length sc, .int .i64 f.auth] 55) = W1 := ⟨_, rfl⟩
      have hb1 : Below wr.heap.size wr W1 := by rw [← hW1]; exact Tx.newb _ _
      have z0 : W1.cell? ⟨wr.heap.size, 0, none⟩ = some (.string f.tag) := by rw [← hW1]; simp
      have z2 : W1.cell? ⟨wr.heap.size, 2, none⟩ = some (.slice sa f.subs.length sc) := by rw [← hW1]; simp
      have HSUB := Lib.hid hsub; clear hsub
      have CQ : Hid (∀ b, q f.tag = b → Calls Tryz.prog 69 #[.string f.tag, .pointer (some ⟨bx, 0, none⟩)] W1 fun e w'' => e = .returned (.bool b) ∧ Below W1.heap.size W1 w'') := Lib.hid (fun b hb9 => by rw [← hb9]; exact HCQ.out W1 f.tag (Tx.step hB (Tx.step hb hb1)))
      cases hq : q f.tag with
      | false =>
        rw [if_neg (by rw [HQP.out, hq]; decide), List.append_nil] at hpt
        have HPT := Lib.hid hpt
        have HQ := Lib.hid hq
        clear hpt hq
        go_wp2_with (go_at_call 69; ((with_reducible refine (CQ.out false HQ.out).mono ?_); rintro e w2 ⟨rfl, hb2⟩))
        have hb3 := Tx.step hb1 hb2
        go_roundw
        case rel => exact ⟨k + 1, hlt, by go_num, by rw [HPT.out]; exact own_below hown hb3, Tx.step hb hb3⟩
        case measure => simp [intOf]; omega
      | true =>
        rw [if_pos (by rw [HQP.out, hq])] at hpt
        have HPT := Lib.hid hpt
        have HQ := Lib.hid hq
        clear hpt hq
        have hscap := HSUB.out.cap
        go_wp2_with (go_at_call 69; ((with_reducible refine (CQ.out true HQ.out).mono ?_); rintro e w2 ⟨rfl, hb2⟩; have z3 := cell_later hb2 z2))
        have hb3 := Tx.step hb (Tx.step hb1 hb2)
        have own3 := own_below hown (Tx.step hb1 hb2)
        clear z0 z2 z3 hW1 hown d0 d1 d2 d3
        go_loopw [7, 27] (fun v i wr => ∃ (j : Nat), j ≤ f.subs.length ∧ i = .int .i64 j ∧ Ix.OwnT wr W.heap.size v (acc ++ (Rc.allV (f.subs.take j) codes.data.toList).flatMap fun s => Tx.words s.data.toList) ∧ Below W.heap.size W wr) (fun _ i _ => f.subs.length - (intOf i).toNat)
        case atStart => exact ⟨0, Nat.zero_le _, by go_num, by show Ix.OwnT _ _ _ (acc ++ []); rw [List.append_nil]; exact own3, hb3⟩
        case round =>
          obtain ⟨j, hj, rfl, hown4, hb4⟩ := hrel
          have hb4s := hb4.size
          by_cases hlt2 : j < f.subs.length
          · obtain ⟨x, hx⟩ : ∃ x, f.subs[j]? = some x := ⟨_, List.getElem?_eq_getElem hlt2⟩
            obtain ⟨sb, so, rfl, hsb, x0, x1⟩ := HSUB.out.get hx
            replace x0 := cell_later hb4 x0
            replace x1 := cell_later hb4 x1
            have hxg := HGD.out.2 x (List.mem_of_getElem? hx)
            have hwt := Ix.words_take (codes := codes.data.toList) hx
            have hwl := Ix.words_le codes.data.toList f.subs j
            have hwl2 := Ix.words_le codes.data.toList f.subs (j + 1)
            have hwf2 : ((Rc.allV f.subs codes.data.toList).flatMap fun s => Tx.words s.data.toList).length ≤ 1000 := hwf
            obtain ⟨pr, hpr⟩ : ∃ pr, ((Rc.allV (f.subs.take j) codes.data.toList).flatMap fun s => Tx.words s.data.toList) = pr := ⟨_, rfl⟩
            rw [hwt] at hwl2
            rw [hpr] at hown4 hwt hwl hwl2
            have hix := Rc.indexByte_mem codes.data.toList x.1
            have hhc : Rc.hasCode codes.data.toList x.1 = codes.data.toList.contains x.1 := by unfold Rc.hasCode; rw [HEMP.out, Bool.false_or]
            have hal : (acc ++ pr).length ≤ 21000 := by rw [List.length_append]; omega
            obtain ⟨W2, hW2⟩ : ∃ W2, wr.alloc (.cells #[.int .u8 x.1.toNat, .string x.2] 57) = W2 := ⟨_, rfl⟩
            have hb6 : Below wr.heap.size wr W2 := by rw [← hW2]; exact Tx.newb _ _
            have y0 : W2.cell? ⟨wr.heap.size, 0, none⟩ = some (.int .u8 x.1.toNat) := by rw [← hW2]; simp
            have y1 : W2.cell? ⟨wr.heap.size, 1, none⟩ = some (.string x.2) := by rw [← hW2]; simp
            have own4 := own_below hown4 hb6
            by_cases hm : x.1 ∈ codes.data.toList
            · have hge := hix.2 hm
              rw [if_pos (by rw [hhc]; simpa using hm)] at hwt hwl2
              obtain ⟨ws, hws⟩ : ∃ ws, Tx.words x.2.data.toList = ws := ⟨_, rfl⟩
              rw [hws] at hwt hwl2
              rw [List.length_append] at hwl2
              have HWS := Lib.hid hws
              have HWT := Lib.hid hwt
              obtain ⟨A, hA⟩ : ∃ A, acc ++ pr = A := ⟨_, rfl⟩
              have HA := Lib.hid hA
              rw [hA] at own4 hal
              have CW : Hid (Calls Tryz.prog 68 #[.string x.2] W2 fun e w' => ∃ A xs, e = .returned (.slice (some ⟨A, 0, none⟩) xs.length xs.length) ∧ xs.map (·.data.toList) = ws ∧ SLA w' (some ⟨A, 0, none⟩) xs.length xs ∧ W2.heap.size ≤ A ∧ Below W2.heap.size W2 w') := Lib.hid (by
                rw [← hws]
                exact text_Words_c x.2 W2 (hG.below (Tx.step hB (Tx.step hb4 hb6))) (by have := hxg.1; omega) hxg.2)
              have hwsl : ws.length ≤ 1000 := by omega
              clear hix hhc hwt hwl hwl2 hwf2 hx hpr hm hws hA hxg hown4 hwf hpl2
              go_wp2_with (first
                | (at_builtin; go_must (refine wpList_append_sl rfl _ _ 28 rfl W.heap.size 9 i0 _ 1 16 Tryz.underlying28 HI.out hz0 hz1 hz2 rfl (by decide) _ A.length _ rfl own5 (some ⟨A5, 0, none⟩) xs.length xs.length (xs.map Value.string) rfl (by simp) (fun h9 => by cases h9) (fun ad had => by cases had; exact hs5.out.cells _ rfl) (SLA.ones xs) (by unfold maxLen; have := HK.out; omega) (by have := HK.out; omega) (by omega) ?_); intro v7 w7 hown7 hg7 hnil7)
                | (go_at_call 67; refine (Tryz.strings_IndexByte codes x.1.toNat _).mono ?_; rintro e w4 ⟨rfl, rfl⟩)
                | (go_at_call 68; ((with_reducible refine CW.out.mono ?_); rintro e w5 ⟨A5, xs, rfl, hxs, hs5', hA5, hb7⟩; have hs5 := Lib.hid hs5'; have HXS := Lib.hid hxs; have own5 := own_below own4 hb7; have hb8 := Tx.step hb6 hb7; have hxl : xs.length = ws.length := (by rw [← HXS.out, List.length_map]); have HK : Hid (A.length + xs.length ≤ 22000) := Lib.hid (by rw [hxl]; omega); have hs7 := hb8.size; have HXL := Lib.hid hxl; clear hs5' hxs hxl)))
              have hgA : Below W.heap.size W w7 := (Tx.step hb4 hb8).grown hg7 (by omega) (fun i hi => (own5.lt i hi).1)
              go_roundw
              case rel => exact ⟨j + 1, hlt2, by go_num, by rw [HWT.out, ← List.append_assoc, HA.out]; exact Ix.own_words hown7 HXS.out, hgA⟩
              case measure => simp [intOf]; omega
            · have hge : Lib.indexByte codes.data.toList x.1 < 0 := by
                have h9 : ¬ 0 ≤ Lib.indexByte codes.data.toList x.1 := fun h8 => hm (hix.1 h8)
                omega
              rw [if_neg (by rw [hhc]; simpa using hm), List.append_nil] at hwt
              have HWT := Lib.hid hwt
              clear hix hhc hwt hwl hwl2 hwf2 hx hpr hm hal
              go_wp2_with (go_at_call 67; refine (Tryz.strings_IndexByte codes x.1.toNat _).mono ?_; rintro e w4 ⟨rfl, rfl⟩)
              go_roundw
              case rel => exact ⟨j + 1, hlt2, by go_num, by rw [HWT.out]; exact own4, Tx.step hb4 hb6⟩
              case measure => simp [intOf]; omega
          · obtain rfl : j = f.subs.length := by omega
            rw [List.take_length] at hown4
            go_wp2
            go_roundw
            case rel => exact ⟨k + 1, hlt, by go_num, by rw [HPT.out]; exact hown4, hb4⟩
            case measure => simp [intOf]; omega
    · obtain rfl : k = fs.length := by omega
      rw [List.take_length] at hown
      go_wp2
      go_ret
      exact ⟨_, rfl, Ix.own_lower hown hbB, Tx.step hB hb⟩

end Go.Proofs.YtcjalpegffldaaaGreatDoor

/- Plain: what strings.Map makes of a number is what the reference makes of it. -/
namespace Go.Proofs.YtcjalpegffldaaaGreatDoor
set_option maxRecDepth 100000

namespace Ix
/-- What the program's closure hands back for a rune. -/
def numC (c : Int) : Int := if c = 45 ∨ c = 32 ∨ c = 160 then -1 else if 65 ≤ c ∧ c ≤ 90 then c + 32 else c
theorem rdec_shape {l : By} (h : (Tx.rdec l).2 ≠ 0) (hne : l ≠ []) :
    (∃ b r, l = b :: r ∧ 32 ≤ b.toNat ∧ b.toNat < 127 ∧ Tx.rdec l = (b.toNat, 1)) ∨
    (∃ b d r, l = b :: d :: r ∧ 194 ≤ b.toNat ∧ b.toNat < 224 ∧ 128 ≤ d.toNat ∧ d.toNat < 192 ∧ 160 ≤ (b.toNat - 192) * 64 + d.toNat - 128 ∧ Tx.rdec l = ((b.toNat - 192) * 64 + d.toNat - 128, 2)) ∨
    (∃ b d e r, l = b :: d :: e :: r ∧ 224 ≤ b.toNat ∧ b.toNat < 240 ∧ 128 ≤ d.toNat ∧ d.toNat < 192 ∧ 128 ≤ e.toNat ∧ e.toNat < 192 ∧ ∃ u, 2048 ≤ u ∧ Tx.rdec l = (u, 3)) := by
  cases l with
  | nil => exact absurd rfl hne
  | cons b r =>
    unfold Tx.rdec Tx.rdecN at h ⊢
    simp only [List.getD_cons_zero, List.length_cons] at h ⊢
    by_cases h1 : 32 ≤ b.toNat ∧ b.toNat < 127
    · exact .inl ⟨b, r, rfl, h1.1, h1.2, by rw [if_pos h1]⟩
    · rw [if_neg h1] at h ⊢
      cases r with
      | nil => simp at h
      | cons d r =>
        simp only [List.length_cons] at h ⊢
        rw [show (b :: d :: r).getD 1 0 = d from rfl] at h ⊢
        by_cases h2 : 194 ≤ b.toNat ∧ b.toNat < 224 ∧ 1 < r.length + 1 + 1 ∧ 128 ≤ d.toNat ∧ d.toNat < 192
        · rw [if_pos h2] at h ⊢
          by_cases h3 : 160 ≤ (b.toNat - 192) * 64 + d.toNat - 128
          · rw [if_pos h3]
            exact .inr (.inl ⟨b, d, r, rfl, h2.1, h2.2.1, h2.2.2.2.1, h2.2.2.2.2, h3, rfl⟩)
          · rw [if_neg h3] at h
            exact absurd rfl h
        · rw [if_neg h2] at h ⊢
          cases r with
          | nil => simp at h
          | cons e r =>
            simp only [List.length_cons] at h ⊢
            rw [show (b :: d :: e :: r).getD 2 0 = e from rfl] at h ⊢
            by_cases h4 : 224 ≤ b.toNat ∧ b.toNat < 240 ∧ 2 < r.length + 1 + 1 + 1 ∧ 128 ≤ d.toNat ∧ d.toNat < 192 ∧ 128 ≤ e.toNat ∧ e.toNat < 192
            · rw [if_pos h4] at h ⊢
              split
              · rename_i h5
                exact .inr (.inr ⟨b, d, e, r, rfl, h4.1, h4.2.1, h4.2.2.2.1, h4.2.2.2.2.1, h4.2.2.2.2.2.1, h4.2.2.2.2.2.2, _, h5.1, rfl⟩)
              · rename_i h5
                rw [if_neg h5] at h
                exact absurd rfl h
            · rw [if_neg h4] at h
              exact absurd rfl h
theorem plain_high {b : UInt8} (r : By) (h1 : 128 ≤ b.toNat) (h2 : b.toNat ≠ 194 ∨ r.head? ≠ some 160) : plainB (b :: r) = b :: plainB r := by
  rw [plainB_cons, if_neg, if_neg, if_neg]
  · omega
  · rintro ⟨e1, e2⟩
    rcases h2 with h2 | h2
    · rw [e1] at h2; exact h2 rfl
    · exact h2 e2
  · rintro (e | e) <;> rw [e] at h1 <;> simp at h1
theorem enc_low (c : Nat) (h : c < 128) : Lib.encodeRune (c : Int) = [UInt8.ofNat c] := by
  unfold Lib.encodeRune
  rw [Lib.encodeRuneZ_one (by omega) (by omega)]
  simp
theorem plain_map : ∀ (n : Nat) (l : By), l.length ≤ n → Tx.valid l = true → Lib.mapD numC l = plainB l
  | 0, l, h, _ => by
    have := List.eq_nil_of_length_eq_zero (by omega : l.length = 0)
    subst this
    rw [Lib.mapD_nil, plainB_nil]
  | n + 1, l, h, hv => by
    by_cases hne : l = []
    · subst hne; rw [Lib.mapD_nil, plainB_nil]
    · obtain ⟨h0, hde, hwid, hvr, hok⟩ := Tx.valid_head hne hv
      rw [hwid] at hvr
      rcases rdec_shape h0 hne with ⟨b, r, rfl, g1, g2, hr⟩ | ⟨b, d, r, rfl, g1, g2, g3, g4, g5, hr⟩ | ⟨b, d, e, r, rfl, g1, g2, g3, g4, g5, g6, u, g7, hr⟩
      · rw [hr] at hde hvr
        have ih := plain_map n r (by simp at h; omega) (by simpa using hvr)
        rw [Lib.mapD_step numC _ hne, hde, plainB_cons]
        simp only [List.drop_succ_cons, List.drop_zero]
        rw [ih]
        by_cases c1 : b = 45 ∨ b = 32
        · have hn : numC (b.toNat : Int) = -1 := by
            unfold numC
            rw [if_pos]
            rcases c1 with e | e
            · rw [e]; exact .inl rfl
            · rw [e]; exact .inr (.inl rfl)
          rw [hn, if_pos c1, if_neg (by decide)]; rfl
        · have k1 : b.toNat ≠ 45 := fun e => c1 (.inl (UInt8.toNat_inj.1 (by rw [e]; rfl)))
          have k2 : b.toNat ≠ 32 := fun e => c1 (.inr (UInt8.toNat_inj.1 (by rw [e]; rfl)))
          by_cases c2 : 65 ≤ b.toNat ∧ b.toNat ≤ 90
          · have hn : numC (b.toNat : Int) = ((b.toNat + 32 : Nat) : Int) := by
              unfold numC
              rw [if_neg (by omega), if_pos (by omega)]
              omega
            have e2 : UInt8.ofNat (b.toNat + 32) = b + 32 := by
              apply UInt8.toNat_inj.1
              rw [UInt8.toNat_add]
              simp
            rw [hn, if_pos (by omega), enc_low _ (by omega), e2, if_neg c1, if_neg (by rintro ⟨e, _⟩; rw [e] at g2; simp at g2), if_pos c2]; rfl
          · have hn : numC (b.toNat : Int) = (b.toNat : Int) := by
              unfold numC
              rw [if_neg (by omega), if_neg (by omega)]
            rw [hn, if_pos (by omega), enc_low _ (by omega), UInt8.ofNat_toNat, if_neg c1, if_neg (by rintro ⟨e, _⟩; rw [e] at g2; simp at g2), if_neg c2]; rfl
      · rw [hr] at hde hvr
        have ih := plain_map n r (by simp at h; omega) (by simpa using hvr)
        by_cases c1 : (b.toNat - 192) * 64 + d.toNat - 128 = 160
        · have e1 : b = 194 := UInt8.toNat_inj.1 (by show b.toNat = 194; omega)
          have e2 : d = 160 := UInt8.toNat_inj.1 (by show d.toNat = 160; omega)
          subst e1 e2
          have hp : plainB (194 :: 160 :: r) = plainB r := by rw [plainB_cons, if_neg (by decide), if_pos ⟨rfl, rfl⟩]; rfl
          have hn : numC ((((194 : UInt8).toNat - 192) * 64 + (160 : UInt8).toNat - 128 : Nat) : Int) = -1 := by decide
          rw [Lib.mapD_step numC _ hne, hde, hp]
          simp only [List.drop_succ_cons, List.drop_zero]
          rw [ih, hn, if_neg (by decide)]; rfl
        · have hf : numC (((b.toNat - 192) * 64 + d.toNat - 128 : Nat) : Int) = (((b.toNat - 192) * 64 + d.toNat - 128 : Nat) : Int) := by
            unfold numC
            rw [if_neg (by omega), if_neg (by omega)]
          rw [Lib.mapD_same numC _ hne (by rw [hde]; exact hf) (by rw [hde]; rintro ⟨_, h9⟩; cases h9), hde]
          simp only [List.drop_succ_cons, List.drop_zero, List.take_succ_cons, List.take_zero]
          rw [ih, plain_high _ (by omega) (by
            by_cases e : b.toNat = 194
            · refine .inr (fun h9 => ?_)
              simp at h9
              rw [h9] at c1
              exact c1 (by rw [e]; rfl)
            · exact .inl e), plain_high _ (by omega) (.inl (by omega))]
          rfl
      · rw [hr] at hde hvr
        have ih := plain_map n r (by simp at h; omega) (by simpa using hvr)
        have hf : numC (u : Int) = (u : Int) := by
          unfold numC
          rw [if_neg (by omega), if_neg (by omega)]
        rw [Lib.mapD_same numC _ hne (by rw [hde]; exact hf) (by rw [hde]; rintro ⟨_, h9⟩; cases h9), hde]
        simp only [List.drop_succ_cons, List.drop_zero, List.take_succ_cons, List.take_zero]
        rw [ih, plain_high _ (by omega) (.inl (by omega)), plain_high _ (by omega) (.inl (by omega)), plain_high _ (by omega) (.inl (by omega))]
        rfl
end Ix
end Go.Proofs.YtcjalpegffldaaaGreatDoor

/- The program's numbers: what the call returns. -/
namespace Go.Proofs.YtcjalpegffldaaaGreatDoor
open Go.RowKit
set_option maxRecDepth 100000

namespace Ix
open Rc
/-- The numbers of subfields. -/
def numS (subs : List (UInt8 × ByteArray)) : List By := numL (allV subs [97])
theorem numS_take {subs : List (UInt8 × ByteArray)} {k : Nat} {x : UInt8 × ByteArray} (h : subs[k]? = some x) : numS (subs.take (k + 1)) = numS (subs.take k) ++ (if x.1 = 97 ∧ plainB x.2.data.toList ≠ [] then [plainB x.2.data.toList] else []) := by
  unfold numS
  rw [allV_take _ h]
  have hh : hasCode [97] x.1 = true ↔ x.1 = 97 := by unfold hasCode; simp [eq_comm]
  have app : ∀ A B : List ByteArray, numL (A ++ B) = numL A ++ numL B := fun A B => by unfold numL; rw [List.map_append, List.filter_append]
  rw [app]
  congr 1
  by_cases hc : x.1 = 97
  · rw [if_pos (hh.2 hc)]
    by_cases hp : plainB x.2.data.toList = []
    · rw [if_neg (fun h9 => h9.2 hp)]; unfold numL; simp [hp]
    · rw [if_pos ⟨hc, hp⟩]; unfold numL; simp [hp]
  · rw [if_neg (fun h9 => hc (hh.1 h9)), if_neg (fun h9 => hc h9.1)]; rfl
theorem numS_all (f : Fl) : numS f.subs = numF f := rfl
theorem numS_len (subs : List (UInt8 × ByteArray)) : (numS subs).length ≤ subs.length := by
  unfold numS
  refine Nat.le_trans (numL_le _) ?_
  unfold allV
  rw [List.length_map]
  exact List.length_filter_le _ _
theorem plainB_len : ∀ (n : Nat) (l : By), l.length ≤ n → (plainB l).length ≤ l.length
  | 0, l, h => by
    have := List.eq_nil_of_length_eq_zero (by omega : l.length = 0)
    subst this
    rw [plainB_nil]
    exact Nat.le_refl _
  | n + 1, [], _ => by rw [plainB_nil]; exact Nat.le_refl _
  | n + 1, c :: r, h => by
    rw [List.length_cons] at h ⊢
    have h1 := plainB_len n r (by omega)
    have h2 := plainB_len n r.tail (by rw [List.length_tail]; omega)
    rw [List.length_tail] at h2
    rw [plainB_cons]
    split
    · omega
    · split
      · omega
      · split <;> rw [List.length_cons] <;> omega
end Ix

set_option maxHeartbeats 800000 in
theorem ix_num_c (c : Nat) (hc : c ≤ 1114111) (w : World) : Calls Tryz.prog 73 #[.int .i32 c] w fun e w' => e = .returned (.int .i32 (Ix.numC c)) ∧ Below w.heap.size w w' := by
  by_cases h1 : c = 45
  · subst h1
    have HN : Hid (Ix.numC ((45 : Nat) : Int) = -1) := Lib.hid (by decide)
    go_enter Tryz.func73, Tryz.ntmps73
    go_wp2
    go_ret
    exact ⟨by rw [HN.out]; rfl, Below.refl _ _⟩
  by_cases h2 : c = 32
  · subst h2
    have HN : Hid (Ix.numC ((32 : Nat) : Int) = -1) := Lib.hid (by decide)
    go_enter Tryz.func73, Tryz.ntmps73
    go_wp2
    go_ret
    exact ⟨by rw [HN.out]; rfl, Below.refl _ _⟩
  by_cases h3 : c = 160
  · subst h3
    have HN : Hid (Ix.numC ((160 : Nat) : Int) = -1) := Lib.hid (by decide)
    go_enter Tryz.func73, Tryz.ntmps73
    go_wp2
    go_ret
    exact ⟨by rw [HN.out]; rfl, Below.refl _ _⟩
  have t1 : ((c : Int) == 45) = false := by rw [beq_eq_false_iff_ne]; omega
  have t2 : ((c : Int) == 32) = false := by rw [beq_eq_false_iff_ne]; omega
  have t3 : ((c : Int) == 160) = false := by rw [beq_eq_false_iff_ne]; omega
  by_cases h4 : 65 ≤ c ∧ c ≤ 90
  · have HN : Hid (Ix.numC (c : Int) = (c : Int) + 32) := Lib.hid (by unfold Ix.numC; rw [if_neg (by omega), if_pos (by omega)])
    have a1 : (65 : Int) ≤ (c : Int) := by omega
    have a2 : (c : Int) ≤ 90 := by omega
    have a3 : 65 ≤ c := by omega
    have a4 : c ≤ 90 := by omega
    clear h1 h2 h3 h4
    go_enter Tryz.func73, Tryz.ntmps73
    go_wp2
    go_ret
    refine ⟨?_, Below.refl _ _⟩
    rw [HN.out]
    show Ending.returned (Value.int .i32 ((c : Int) + 97 - 65)) = _
    rw [show (c : Int) + 97 - 65 = (c : Int) + 32 by omega]
  · have HN : Hid (Ix.numC (c : Int) = (c : Int)) := Lib.hid (by unfold Ix.numC; rw [if_neg (by omega), if_neg (by omega)])
    by_cases h5 : c < 65
    · have a1 : ¬ (65 : Int) ≤ (c : Int) := by omega
      have a3 : ¬ 65 ≤ c := by omega
      clear h1 h2 h3 h4
      go_enter Tryz.func73, Tryz.ntmps73
      go_wp2
      go_ret
      exact ⟨by rw [HN.out]; rfl, Below.refl _ _⟩
    · have a1 : (65 : Int) ≤ (c : Int) := by omega
      have a2 : ¬ (c : Int) ≤ 90 := by omega
      have a3 : 65 ≤ c := by omega
      have a4 : ¬ c ≤ 90 := by omega
      clear h1 h2 h3 h4 h5
      go_enter Tryz.func73, Tryz.ntmps73
      go_wp2
      go_ret
      exact ⟨by rw [HN.out]; rfl, Below.refl _ _⟩

theorem ix_num_enters : ∀ args w, (callFunc 73 args).run Tryz.prog w = .ok (.enter 73 args) w := enters_of Tryz.func73 (by kernel_rfl) rfl

theorem ix_map_c (s : ByteArray) (w : World) (hG : G w) (hs : s.size ≤ 1000000) (hv : Tx.valid s.data.toList = true) :
    Calls Tryz.prog 72 #[.func (.func 73) #[] #[], .string s] w fun e w' => e = .returned (.string ⟨(Ix.plainB s.data.toList).toArray⟩) ∧ Below w.heap.size w w' := by
  have h := Tryz.strings_Map_grows 73 #[] ix_num_enters Ix.numC s w (by omega) (fun W x hx _ => ix_num_c x hx W) (fun x hx => by constructor <;> unfold Ix.numC <;> split <;> (try split) <;> omega) hG.u
  rw [Ix.plain_map _ _ (Nat.le_refl _) hv] at h
  exact h

set_option maxHeartbeats 6400000 in
theorem ix_numbers_c (fs : List Rc.Fl) (a : Option Addr) (c : Nat) (id ver kind : Int) (lang : ByteArray) (w : World) (hG : G w) (h : Rc.FldA w a c fs) (hM : Ix.Mod fs) (hV : ∀ f ∈ fs, Rc.Gd f) :
    Calls Tryz.prog 39 #[.agg #[.int .i64 id, .int .i64 ver, .int .i64 kind, .string lang, .slice a fs.length c]] w fun e w' => ∃ v, e = .returned v ∧ Ix.OwnT w' w.heap.size v (Ix.nums fs) ∧ Below w.heap.size w w' := by
  obtain ⟨i0, hi0, hz0, hz1, hz2⟩ := info_parts info_str
  have HI := Lib.hid hi0; clear hi0
  obtain ⟨W, hW⟩ : ∃ W, w.alloc (.cells #[.int .i64 id, .int .i64 ver, .int .i64 kind, .string lang, .slice a fs.length c] 24) = W := ⟨_, rfl⟩
  have hB : Below w.heap.size w W := by rw [← hW]; exact Tx.newb _ _
  have c4 : W.cell? ⟨w.heap.size, 4, none⟩ = some (.slice a fs.length c) := by rw [← hW]; simp
  have HS := Lib.hid (h.below hB); clear h
  have hlen := hM.len
  have hcap := HS.out.cap
  have hbB := hB.size
  have HV := Lib.hid hV; clear hV
  go_enter Tryz.func39, Tryz.ntmps39
  go_wp2
  clear hW
  go_loopw [3, 12] (fun v i wr => ∃ (k : Nat), k ≤ fs.length ∧ i = .int .i64 k ∧ Ix.OwnT wr W.heap.size v (Ix.nums (fs.take k)) ∧ Below W.heap.size W wr) (fun _ i _ => fs.length - (intOf i).toNat)
  case atStart => exact ⟨0, Nat.zero_le _, by go_num, World.ownsRow_nil _ _ _ _, Below.refl _ _⟩
  case round =>
    obtain ⟨k, hk, rfl, hown, hb⟩ := hrel
    have hbs := hb.size
    by_cases hlt : k < fs.length
    · obtain ⟨f, hf⟩ : ∃ f, fs[k]? = some f := ⟨_, List.getElem?_eq_getElem hlt⟩
      have hfm := List.mem_of_getElem? hf
      obtain ⟨B, o, sa, sc, rfl, hbl, d0, d1, d2, d3, hsub⟩ := HS.out.get hf
      replace d0 := cell_later hb d0
      replace d1 := cell_later hb d1
      replace d2 := cell_later hb d2
      replace d3 := cell_later hb d3
      have hpt := Ix.nums_take hf
      have hpl := Ix.nums_le (fs := fs.take k) (fun g hg => hM.subs g (List.mem_of_mem_take hg))
      rw [List.length_take] at hpl
      have hsl := hM.subs f hfm
      have HGD := Lib.hid (HV.out f hfm)
      obtain ⟨acc, hacc⟩ : ∃ acc, Ix.nums (fs.take k) = acc := ⟨_, rfl⟩
      rw [hacc] at hown hpt hpl
      have hpl2 : acc.length ≤ 20000 := by omega
      clear hpl hacc hf
      obtain ⟨W1, hW1⟩ : ∃ W1, wr.alloc (.cells #[.string f.tag, .string f.ind, .slice sa f.subs.length sc, .int .i64 f.auth] 55) = W1 := ⟨_, rfl⟩
      have hb1 : Below wr.heap.size wr W1 := by rw [← hW1]; exact Tx.newb _ _
      have z0 : W1.cell? ⟨wr.heap.size, 0, none⟩ = some (.string f.tag) := by rw [← hW1]; simp
      have z2 : W1.cell? ⟨wr.heap.size, 2, none⟩ = some (.slice sa f.subs.length sc) := by rw [← hW1]; simp
      have HSUB := Lib.hid hsub; clear hsub
      rcases Bool.eq_false_or_eq_true (f.tag.toList == [48, 50, 48]) with t0 | t0
      · have b0 : Rc.tagIs [48, 50, 48] f = true := by unfold Rc.tagIs; rw [← Lib.toList_data]; exact t0
        have hti : Ix.numB f = true := by unfold Ix.numB; rw [b0]; simp
        clear b0
        rw [if_pos hti] at hpt
        have HPT := Lib.hid hpt
        clear hpt hti
        have hscap := HSUB.out.cap
        go_wp2
        clear hW1 z0
        go_loopw [3, 27] (fun v i wr => ∃ (j : Nat), j ≤ f.subs.length ∧ i = .int .i64 j ∧ Ix.OwnT wr W.heap.size v (acc ++ Ix.numS (f.subs.take j)) ∧ Below W.heap.size W wr) (fun _ i _ => f.subs.length - (intOf i).toNat)
        case atStart => exact ⟨0, Nat.zero_le _, by go_num, by show Ix.OwnT _ _ _ (acc ++ []); rw [List.append_nil]; exact own_below hown hb1, Tx.step hb hb1⟩
        case round =>
          obtain ⟨j, hj, rfl, hown4, hb4⟩ := hrel
          have hb4s := hb4.size
          by_cases hlt2 : j < f.subs.length
          · obtain ⟨x, hx⟩ : ∃ x, f.subs[j]? = some x := ⟨_, List.getElem?_eq_getElem hlt2⟩
            obtain ⟨sb, so, rfl, hsb, x0, x1⟩ := HSUB.out.get hx
            replace x0 := cell_later hb4 x0
            replace x1 := cell_later hb4 x1
            have hxg := HGD.out.2 x (List.mem_of_getElem? hx)
            have hnt := Ix.numS_take hx
            have hnl := Ix.numS_len (f.subs.take j)
            rw [List.length_take] at hnl
            have hpl9 := Ix.plainB_len _ x.2.data.toList (Nat.le_refl _)
            obtain ⟨A, hA⟩ : ∃ A, acc ++ Ix.numS (f.subs.take j) = A := ⟨_, rfl⟩
            have HK : Hid (A.length ≤ 30000) := Lib.hid (by rw [← hA, List.length_append]; omega)
            have HA := Lib.hid hA
            rw [hA] at hown4
            obtain ⟨P, hPP⟩ : ∃ P : ByteArray, (⟨(Ix.plainB x.2.data.toList).toArray⟩ : ByteArray) = P := ⟨_, rfl⟩
            have HPP := Lib.hid hPP
            obtain ⟨W2, hW2⟩ : ∃ W2, wr.alloc (.cells #[.int .u8 x.1.toNat, .string x.2] 57) = W2 := ⟨_, rfl⟩
            have hb6 : Below wr.heap.size wr W2 := by rw [← hW2]; exact Tx.newb _ _
            have y0 : W2.cell? ⟨wr.heap.size, 0, none⟩ = some (.int .u8 x.1.toNat) := by rw [← hW2]; simp
            have y1 : W2.cell? ⟨wr.heap.size, 1, none⟩ = some (.string x.2) := by rw [← hW2]; simp
            have own4 := own_below hown4 hb6
            have CMAP : Hid (Calls Tryz.prog 72 #[.func (.func 73) #[] #[], .string x.2] W2 fun e w' => e = .returned (.string P) ∧ Below W2.heap.size W2 w') := Lib.hid (by
              rw [← hPP]
              exact ix_map_c x.2 W2 (hG.below (Tx.step hB (Tx.step hb4 hb6))) (by have := hxg.1; omega) hxg.2)
            clear hA hPP hx hxg hnl hown4 hpl9
            by_cases hP0 : Ix.plainB x.2.data.toList = []
            · rw [if_neg (fun h9 => h9.2 hP0), List.append_nil] at hnt
              have HNT := Lib.hid hnt
              have hPe : (P.toList == []) = true := by rw [Lib.toList_data, ← HPP.out, hP0]; rfl
              clear hnt hP0
              cases hc97 : ((x.1.toNat : Int) == 97)
              all_goals
                go_wp2_with (go_at_call 72; ((with_reducible refine CMAP.out.mono ?_); rintro e w5 ⟨rfl, hb7⟩; have own5 := own_below own4 hb7; have hb8 := Tx.step hb6 hb7; have v0 := cell_later hb7 y0; have s7 := hb8.size))
                go_roundw
                case rel => exact ⟨j + 1, hlt2, by go_num, by rw [HNT.out, HA.out]; exact own5, Tx.step hb4 hb8⟩
                case measure => simp [intOf]; omega
            · have hPe : (P.toList == []) = false := by rw [Lib.toList_data, ← HPP.out]; simpa using hP0
              by_cases hc : x.1 = 97
              · rw [if_pos ⟨hc, hP0⟩] at hnt
                have HNT := Lib.hid hnt
                have hc97 : ((x.1.toNat : Int) == 97) = true := by rw [hc]; rfl
                have HC := Lib.hid hc
                clear hnt hP0 hc
                go_wp2_with (first
                  | (at_builtin; go_must (refine wpList_append_sl rfl _ _ 28 rfl W.heap.size 9 i0 _ 1 16 Tryz.underlying28 HI.out hz0 hz1 hz2 rfl (by decide) _ A.length _ rfl (own5.alloc _) (some ⟨_, 0, none⟩) 1 1 [Value.string P] rfl rfl (fun h9 => by cases h9) (fun ad had => by cases had; exact Br.cells_new_at _ _ (by first | rfl | simp) _ _) (by simp [Value.oneCell']) (by unfold maxLen; have := HK.out; omega) (by have := HK.out; omega) (by simp; omega) ?_); intro v7 w7 hown7 hg7 hnil7)
                  | (go_at_call 72; ((with_reducible refine CMAP.out.mono ?_); rintro e w5 ⟨rfl, hb7⟩; have own5 := own_below own4 hb7; have hb8 := Tx.step hb6 hb7; have v0 := cell_later hb7 y0; have s7 := hb8.size)))
                have hgA : Below W.heap.size W w7 := ((Tx.step hb4 hb8).alloc (by omega) _).grown hg7 (by simp; omega) (fun i hi => (own5.lt i hi).1)
                go_roundw
                case rel => exact ⟨j + 1, hlt2, by go_num, by unfold Ix.OwnT; rw [HNT.out, ← List.append_assoc, HA.out, List.length_append, List.map_append]; rw [← HPP.out] at hown7; exact hown7, hgA⟩
                case measure => simp [intOf]; omega
              · rw [if_neg (fun h9 => hc h9.1), List.append_nil] at hnt
                have HNT := Lib.hid hnt
                have hc97 : ((x.1.toNat : Int) == 97) = false := by
                  rw [beq_eq_false_iff_ne]
                  intro e
                  exact hc (UInt8.toNat_inj.1 (by show x.1.toNat = 97; omega))
                clear hnt hP0 hc
                go_wp2_with (go_at_call 72; ((with_reducible refine CMAP.out.mono ?_); rintro e w5 ⟨rfl, hb7⟩; have own5 := own_below own4 hb7; have hb8 := Tx.step hb6 hb7; have v0 := cell_later hb7 y0; have s7 := hb8.size))
                go_roundw
                case rel => exact ⟨j + 1, hlt2, by go_num, by rw [HNT.out, HA.out]; exact own5, Tx.step hb4 hb8⟩
                case measure => simp [intOf]; omega
          · obtain rfl : j = f.subs.length := by omega
            rw [List.take_length, Ix.numS_all] at hown4
            go_wp2
            go_roundw
            case rel => exact ⟨k + 1, hlt, by go_num, by rw [HPT.out]; exact hown4, hb4⟩
            case measure => simp [intOf]; omega
      · have b0 : Rc.tagIs [48, 50, 48] f = false := by unfold Rc.tagIs; rw [← Lib.toList_data]; exact t0
        rcases Bool.eq_false_or_eq_true (f.tag.toList == [48, 50, 50]) with t1 | t1
        · have b1 : Rc.tagIs [48, 50, 50] f = true := by unfold Rc.tagIs; rw [← Lib.toList_data]; exact t1
          have hti : Ix.numB f = true := by unfold Ix.numB; rw [b1]; simp
          clear b0 b1
          rw [if_pos hti] at hpt
          have HPT := Lib.hid hpt
          clear hpt hti
          have hscap := HSUB.out.cap
          go_wp2
          clear hW1 z0
          go_loopw [3, 27] (fun v i wr => ∃ (j : Nat), j ≤ f.subs.length ∧ i = .int .i64 j ∧ Ix.OwnT wr W.heap.size v (acc ++ Ix.numS (f.subs.take j)) ∧ Below W.heap.size W wr) (fun _ i _ => f.subs.length - (intOf i).toNat)
          case atStart => exact ⟨0, Nat.zero_le _, by go_num, by show Ix.OwnT _ _ _ (acc ++ []); rw [List.append_nil]; exact own_below hown hb1, Tx.step hb hb1⟩
          case round =>
            obtain ⟨j, hj, rfl, hown4, hb4⟩ := hrel
            have hb4s := hb4.size
            by_cases hlt2 : j < f.subs.length
            · obtain ⟨x, hx⟩ : ∃ x, f.subs[j]? = some x := ⟨_, List.getElem?_eq_getElem hlt2⟩
              obtain ⟨sb, so, rfl, hsb, x0, x1⟩ := HSUB.out.get hx
              replace x0 := cell_later hb4 x0
              replace x1 := cell_later hb4 x1
              have hxg := HGD.out.2 x (List.mem_of_getElem? hx)
              have hnt := Ix.numS_take hx
              have hnl := Ix.numS_len (f.subs.take j)
              rw [List.length_take] at hnl
              have hpl9 := Ix.plainB_len _ x.2.data.toList (Nat.le_refl _)
              obtain ⟨A, hA⟩ : ∃ A, acc ++ Ix.numS (f.subs.take j) = A := ⟨_, rfl⟩
              have HK : Hid (A.length ≤ 30000) := Lib.hid (by rw [← hA, List.length_append]; omega)
              have HA := Lib.hid hA
              rw [hA] at hown4
              obtain ⟨P, hPP⟩ : ∃ P : ByteArray, (⟨(Ix.plainB x.2.data.toList).toArray⟩ : ByteArray) = P := ⟨_, rfl⟩
              have HPP := Lib.hid hPP
              obtain ⟨W2, hW2⟩ : ∃ W2, wr.alloc (.cells #[.int .u8 x.1.toNat, .string x.2] 57) = W2 := ⟨_, rfl⟩
              have hb6 : Below wr.heap.size wr W2 := by rw [← hW2]; exact Tx.newb _ _
              have y0 : W2.cell? ⟨wr.heap.size, 0, none⟩ = some (.int .u8 x.1.toNat) := by rw [← hW2]; simp
              have y1 : W2.cell? ⟨wr.heap.size, 1, none⟩ = some (.string x.2) := by rw [← hW2]; simp
              have own4 := own_below hown4 hb6
              have CMAP : Hid (Calls Tryz.prog 72 #[.func (.func 73) #[] #[], .string x.2] W2 fun e w' => e = .returned (.string P) ∧ Below W2.heap.size W2 w') := Lib.hid (by
                rw [← hPP]
                exact ix_map_c x.2 W2 (hG.below (Tx.step hB (Tx.step hb4 hb6))) (by have := hxg.1; omega) hxg.2)
              clear hA hPP hx hxg hnl hown4 hpl9
              by_cases hP0 : Ix.plainB x.2.data.toList = []
              · rw [if_neg (fun h9 => h9.2 hP0), List.append_nil] at hnt
                have HNT := Lib.hid hnt
                have hPe : (P.toList == []) = true := by rw [Lib.toList_data, ← HPP.out, hP0]; rfl
                clear hnt hP0
                cases hc97 : ((x.1.toNat : Int) == 97)
                all_goals
                  go_wp2_with (go_at_call 72; ((with_reducible refine CMAP.out.mono ?_); rintro e w5 ⟨rfl, hb7⟩; have own5 := own_below own4 hb7; have hb8 := Tx.step hb6 hb7; have v0 := cell_later hb7 y0; have s7 := hb8.size))
                  go_roundw
                  case rel => exact ⟨j + 1, hlt2, by go_num, by rw [HNT.out, HA.out]; exact own5, Tx.step hb4 hb8⟩
                  case measure => simp [intOf]; omega
              · have hPe : (P.toList == []) = false := by rw [Lib.toList_data, ← HPP.out]; simpa using hP0
                by_cases hc : x.1 = 97
                · rw [if_pos ⟨hc, hP0⟩] at hnt
                  have HNT := Lib.hid hnt
                  have hc97 : ((x.1.toNat : Int) == 97) = true := by rw [hc]; rfl
                  have HC := Lib.hid hc
                  clear hnt hP0 hc
                  go_wp2_with (first
                    | (at_builtin; go_must (refine wpList_append_sl rfl _ _ 28 rfl W.heap.size 9 i0 _ 1 16 Tryz.underlying28 HI.out hz0 hz1 hz2 rfl (by decide) _ A.length _ rfl (own5.alloc _) (some ⟨_, 0, none⟩) 1 1 [Value.string P] rfl rfl (fun h9 => by cases h9) (fun ad had => by cases had; exact Br.cells_new_at _ _ (by first | rfl | simp) _ _) (by simp [Value.oneCell']) (by unfold maxLen; have := HK.out; omega) (by have := HK.out; omega) (by simp; omega) ?_); intro v7 w7 hown7 hg7 hnil7)
                    | (go_at_call 72; ((with_reducible refine CMAP.out.mono ?_); rintro e w5 ⟨rfl, hb7⟩; have own5 := own_below own4 hb7; have hb8 := Tx.step hb6 hb7; have v0 := cell_later hb7 y0; have s7 := hb8.size)))
                  have hgA : Below W.heap.size W w7 := ((Tx.step hb4 hb8).alloc (by omega) _).grown hg7 (by simp; omega) (fun i hi => (own5.lt i hi).1)
                  go_roundw
                  case rel => exact ⟨j + 1, hlt2, by go_num, by unfold Ix.OwnT; rw [HNT.out, ← List.append_assoc, HA.out, List.length_append, List.map_append]; rw [← HPP.out] at hown7; exact hown7, hgA⟩
                  case measure => simp [intOf]; omega
                · rw [if_neg (fun h9 => hc h9.1), List.append_nil] at hnt
                  have HNT := Lib.hid hnt
                  have hc97 : ((x.1.toNat : Int) == 97) = false := by
                    rw [beq_eq_false_iff_ne]
                    intro e
                    exact hc (UInt8.toNat_inj.1 (by show x.1.toNat = 97; omega))
                  clear hnt hP0 hc
                  go_wp2_with (go_at_call 72; ((with_reducible refine CMAP.out.mono ?_); rintro e w5 ⟨rfl, hb7⟩; have own5 := own_below own4 hb7; have hb8 := Tx.step hb6 hb7; have v0 := cell_later hb7 y0; have s7 := hb8.size))
                  go_roundw
                  case rel => exact ⟨j + 1, hlt2, by go_num, by rw [HNT.out, HA.out]; exact own5, Tx.step hb4 hb8⟩
                  case measure => simp [intOf]; omega
            · obtain rfl : j = f.subs.length := by omega
              rw [List.take_length, Ix.numS_all] at hown4
              go_wp2
              go_roundw
              case rel => exact ⟨k + 1, hlt, by go_num, by rw [HPT.out]; exact hown4, hb4⟩
              case measure => simp [intOf]; omega
        · have b1 : Rc.tagIs [48, 50, 50] f = false := by unfold Rc.tagIs; rw [← Lib.toList_data]; exact t1
          have hti : ¬ Ix.numB f = true := by unfold Ix.numB; rw [b0, b1]; simp
          clear b0 b1
          rw [if_neg hti, List.append_nil] at hpt
          have HPT := Lib.hid hpt
          clear hpt hti
          go_wp2
          go_roundw
          case rel => exact ⟨k + 1, hlt, by go_num, by rw [HPT.out]; exact own_below hown hb1, Tx.step hb hb1⟩
          case measure => simp [intOf]; omega
    · obtain rfl : k = fs.length := by omega
      rw [List.take_length] at hown
      go_wp2
      go_ret
      exact ⟨_, rfl, Ix.own_lower hown hbB, Tx.step hB hb⟩

end Go.Proofs.YtcjalpegffldaaaGreatDoor
