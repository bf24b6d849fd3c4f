/- Texts of this seat's, what the claim needs of them. -/
import Derived.Test.YtlakomilichhnaaGreatDoorZOj
import Derived.Test.YtlakomilichhnaaGreatDoorZOp
import Derived.Test.YtlakomilichhnaaGreatDoorZOe
import Derived.Test.YtlakomilichhnaaGreatDoorZOf
import Derived.Deep.RegionHeld3
import Derived.Deep.RegionLaw
import Derived.Test.YtlakomilichhnaaGreatDoorZShelfB
import Derived.Sort.OwnSorted
import Derived.Shelf.SlSortCmp.NoneTotal
import Derived.Maps.OwnSet
import Derived.StringKeys
import Derived.Test.YtlakomilichhnaaGreatDoorZOa
import Derived.Maps.RangeWalk
namespace Go.Proofs.YtlakomilichhnaaGreatDoor.Rc
end Go.Proofs.YtlakomilichhnaaGreatDoor.Rc
namespace Go.Proofs.YtlakomilichhnaaGreatDoor
open Go.RowKit
set_option maxRecDepth 100000
namespace Ix
open Rc
theorem words_take {codes : By} {subs : List (UInt8 × ByteArray)} {k : Nat} {x : UInt8 × ByteArray} (h : subs[k]? = some x) : ((allV (subs.take (k + 1)) codes).flatMap fun s => Tx.words s.data.toList) = ((allV (subs.take k) codes).flatMap fun s => Tx.words s.data.toList) ++ (if hasCode codes x.1 = true then Tx.words x.2.data.toList else []) := by
 rw [allV_take codes h, List.flatMap_append]
 by_cases hp : hasCode codes x.1 = true
 ·rw [if_pos hp, if_pos hp]; simp
 ·rw [if_neg hp, if_neg hp]; simp
theorem own_words {w : World} {B : Nat} {v : Value} {A ws : List By} {xs : List ByteArray} (h : w.ownsRow B 9 1 v (A.length + xs.length) (A.map Tx.sv ++ xs.map Value.string)) (hx : xs.map (·.data.toList) = ws) : OwnT w B v (A ++ ws) := by
 unfold OwnT
 rw [List.length_append, List.map_append, ← hx, List.length_map, List.map_map]
 exact h
theorem words_le (codes : By) (subs : List (UInt8 × ByteArray)) (k : Nat) : ((allV (subs.take k) codes).flatMap fun s => Tx.words s.data.toList).length ≤ ((allV subs codes).flatMap fun s => Tx.words s.data.toList).length := by
 conv => rhs; rw [← List.take_append_drop k subs]
 unfold allV
 rw [List.filter_append, List.map_append, List.flatMap_append, List.length_append]
 omega
end Ix
set_option maxHeartbeats 400000 in
theorem ix_pre6_c (tag : ByteArray) (w : World) : Calls Tryz.prog 131 #[.string tag] w fun e w' => e = .returned (.bool (Lib.hasPrefix tag.data.toList [54])) ∧ Below w.heap.size w w' := by
 have HP := fun w' => Tryz.strings_HasPrefix tag ⟨#[54]⟩ w'
 change ∀ w', Calls Tryz.prog 65 #[.string tag, .string ⟨#[54]⟩] w' (fun e w'' => e = .returned (.bool (Lib.hasPrefix tag.data.toList [54])) ∧ w'' = w') at HP
 generalize Lib.hasPrefix tag.data.toList [54] = r at HP ⊢
 have HC := Lib.hid HP
 clear HP
 go_enter Tryz.func131, Tryz.ntmps131
 go_wp2_with (go_at_call 65; ((with_reducible refine (HC.out _).mono ?_); rintro e w1 ⟨rfl, rfl⟩))
 go_ret
 exact ⟨rfl, Below.refl _ _⟩
set_option maxHeartbeats 400000 in
theorem ix_pre5_c (tag : ByteArray) (w : World) : Calls Tryz.prog 133 #[.string tag] w fun e w' => e = .returned (.bool (Lib.hasPrefix tag.data.toList [53])) ∧ Below w.heap.size w w' := by
 have HP := fun w' => Tryz.strings_HasPrefix tag ⟨#[53]⟩ w'
 change ∀ w', Calls Tryz.prog 65 #[.string tag, .string ⟨#[53]⟩] w' (fun e w'' => e = .returned (.bool (Lib.hasPrefix tag.data.toList [53])) ∧ w'' = w') at HP
 generalize Lib.hasPrefix tag.data.toList [53] = r at HP ⊢
 have HC := Lib.hid HP
 clear HP
 go_enter Tryz.func133, Tryz.ntmps133
 go_wp2_with (go_at_call 65; ((with_reducible refine (HC.out _).mono ?_); rintro e w1 ⟨rfl, rfl⟩))
 go_ret
 exact ⟨rfl, Below.refl _ _⟩
structure Ix.Cap (w : World) (bx : Nat) (L : List ByteArray) : Prop where
 h : ∃ (a : Option Addr) (c : Nat), w.cell? ⟨bx, 0, none⟩ = some (.slice a L.length c) ∧ SLA w a c L
 lt : bx < w.heap.size
theorem Ix.Cap.below {w w' : World} {bx : Nat} {L : List ByteArray} (h : Ix.Cap w bx L) (hb : Below w.heap.size w w') : Ix.Cap w' bx L := by
 obtain ⟨a, c, h1, h2⟩ := h.h
 exact ⟨⟨a, c, cell_later hb h1, h2.below hb⟩, Nat.lt_of_lt_of_le h.lt hb.size⟩
set_option maxHeartbeats 400000 in
theorem ix_tag1_c (tag : ByteArray) (bx : Nat) (L : List ByteArray) (w : World) (h : Ix.Cap w bx L) (hne : L ≠ []) : Calls Tryz.prog 209 #[.string tag, .pointer (some ⟨bx, 0, none⟩)] w fun e w' => e = .returned (.bool (Lib.containsS L tag)) ∧ Below w.heap.size w w' := by
 obtain ⟨a, c, c0, hs⟩ := h.h
 obtain ⟨b, o, rfl, hb, hat⟩ := hs.row hne
 have hcap := hs.cap
 have hmax := hs.max
 unfold maxLen at hmax
 have HP := fun w' (hb' : Below w.heap.size w w') => Tryz.slices_Contains_string b o L.length c L tag w' (Nat.le_refl _) (by omega) (fun j hj => cell_later hb' (hat j _ (by rw [List.getElem?_eq_getElem hj, List.getD_eq_getElem?_getD, List.getElem?_eq_getElem hj]; rfl)))
 rw [List.take_length] at HP
 generalize Lib.containsS L tag = r at HP ⊢
 have HC := Lib.hid HP
 clear HP
 go_enter Tryz.func209, Tryz.ntmps209
 go_wp2_with (go_at_call 61; ((with_reducible refine (HC.out _ (Below.refl _ _)).mono ?_); rintro e w1 ⟨rfl, rfl⟩))
 go_ret
 exact ⟨rfl, Below.refl _ _⟩
set_option maxHeartbeats 400000 in
theorem ix_tags_c (L : List ByteArray) (a : Option Addr) (c : Nat) (w : World) (h : SLA w a c L) : Calls Tryz.prog 130 #[.slice a L.length c] w fun e w' => ∃ bx, e = .returned (.func (.func 209) #[] #[.pointer (some ⟨bx, 0, none⟩)]) ∧ Ix.Cap w' bx L ∧ Below w.heap.size w w' := by
 have hmf : ∀ (fn : Fn) (first cap : Array Value) (w : World), (Instr.makeFunc fn first cap).run Tryz.prog w = .ok (.func fn first cap) w := fun _ _ _ _ => rfl
 go_enter Tryz.func130, Tryz.ntmps130
 go_wp2
 go_ret
 exact ⟨w.heap.size, rfl, ⟨⟨a, c, by simp, h.below (Tx.newb _ _)⟩, by simp⟩, Tx.newb _ _⟩
set_option maxHeartbeats 3200000 in
theorem picks_p6_c (fs : List Rc.Fl) (a : Option Addr) (c : Nat) (id ver kind : Int) (lang : ByteArray)  (q : ByteArray → Bool) (p : Rc.Fl → Bool) (hqp : ∀ f, p f = q f.tag) (codes : ByteArray) (hc0 : codes.data.toList ≠ []) (w : World) (hG : G w) (h : Rc.FldA w a c fs) (hM : Ix.Mod fs) (hV : ∀ f ∈ fs, Rc.Gd f)
  (CQ : ∀ w' tag, Below w.heap.size w w' → Calls Tryz.prog 131 #[.string tag] w' fun e w'' => e = .returned (.bool (q tag)) ∧ Below w'.heap.size w' w'') :
  Calls Tryz.prog 129 #[.agg #[.int .i64 id, .int .i64 ver, .int .i64 kind, .string lang, .slice a fs.length c], .func (.func 131) #[] #[], .string codes] w fun e w' => ∃ v, e = .returned v ∧ Ix.OwnT w' w.heap.size v (Ix.pick p codes.data.toList fs) ∧ Below w.heap.size w w' := by
 obtain ⟨i0, hi0, hz0, hz1, hz2⟩ := info_parts info_str
 have HI := Lib.hid hi0; clear hi0
 obtain ⟨W, hW⟩ : ∃ W, w.alloc (.cells #[.int .i64 id, .int .i64 ver, .int .i64 kind, .string lang, .slice a fs.length c] 51) = W := ⟨_, rfl⟩
 have hB : Below w.heap.size w W := by rw [← hW]; exact Tx.newb _ _
 have c4 : W.cell? ⟨w.heap.size, 4, none⟩ = some (.slice a fs.length c) := by rw [← hW]; simp
 have HS := Lib.hid (h.below hB); clear h
 have hlen := hM.len
 have hcap := HS.out.cap
 have hbB := hB.size
 have HCQ := Lib.hid CQ; clear CQ
 have HQP := Lib.hid hqp; clear hqp
 have HV := Lib.hid hV; clear hV
 have hemp : codes.data.toList.isEmpty = false := by simpa using hc0
 have HEMP := Lib.hid hemp
 clear hc0 hemp
 go_enter Tryz.func129, Tryz.ntmps129
 go_wp2
 clear hW
 go_loopw [7, 15] (fun v i wr => ∃ (k : Nat), k ≤ fs.length ∧ i = .int .i64 k ∧ Ix.OwnT wr W.heap.size v (Ix.pick p codes.data.toList (fs.take k)) ∧ Below W.heap.size W wr) (fun _ i _ => fs.length - (intOf i).toNat)
 case atStart => exact ⟨0, Nat.zero_le _, by go_num, World.ownsRow_nil _ _ _ _, Below.refl _ _⟩
 case round =>
  obtain ⟨k, hk, rfl, hown, hb⟩ := hrel
  have hbs := hb.size
  by_cases hlt : k < fs.length
  ·obtain ⟨f, hf⟩ : ∃ f, fs[k]? = some f := ⟨_, List.getElem?_eq_getElem hlt⟩
   have hfm := List.mem_of_getElem? hf
   obtain ⟨B, o, sa, sc, rfl, hbl, d0, d1, d2, d3, hsub⟩ := HS.out.get hf
   replace d0 := cell_later hb d0
   replace d1 := cell_later hb d1
   replace d2 := cell_later hb d2
   replace d3 := cell_later hb d3
   have hpt := Ix.pick_take (p := p) (codes := codes.data.toList) hf
   have hpl := Ix.pick_le (p := p) (codes := codes.data.toList) (fs := fs.take k) (fun g hg => hM.words g (List.mem_of_mem_take hg) _)
   rw [List.length_take] at hpl
   have hwf := hM.words f hfm codes.data.toList
   have hsl := hM.subs f hfm
   have HGD := Lib.hid (HV.out f hfm)
   obtain ⟨acc, hacc⟩ : ∃ acc, Ix.pick p codes.data.toList (fs.take k) = acc := ⟨_, rfl⟩
   rw [hacc] at hown hpt hpl
   have hpl2 : acc.length ≤ 1000000 := by omega
   clear hpl hacc hf
   obtain ⟨W1, hW1⟩ : ∃ W1, wr.alloc (.cells #[.string f.tag, .string f.ind, .slice sa f.subs.length sc, .int .i64 f.auth] 84) = W1 := ⟨_, rfl⟩
   have hb1 : Below wr.heap.size wr W1 := by rw [← hW1]; exact Tx.newb _ _
   have z0 : W1.cell? ⟨wr.heap.size, 0, none⟩ = some (.string f.tag) := by rw [← hW1]; simp
   have z2 : W1.cell? ⟨wr.heap.size, 2, none⟩ = some (.slice sa f.subs.length sc) := by rw [← hW1]; simp
   have HSUB := Lib.hid hsub; clear hsub
   have CQ : Hid (∀ b, q f.tag = b → Calls Tryz.prog 131 #[.string f.tag] W1 fun e w'' => e = .returned (.bool b) ∧ Below W1.heap.size W1 w'') := Lib.hid (fun b hb9 => by rw [← hb9]; exact HCQ.out W1 f.tag (Tx.step hB (Tx.step hb hb1)))
   cases hq : q f.tag with
   | false =>
    rw [if_neg (by rw [HQP.out, hq]; decide), List.append_nil] at hpt
    have HPT := Lib.hid hpt
    have HQ := Lib.hid hq
    clear hpt hq
    go_wp2_with (go_at_call 131; ((with_reducible refine (CQ.out false HQ.out).mono ?_); rintro e w2 ⟨rfl, hb2⟩))
    have hb3 := Tx.step hb1 hb2
    go_roundw
    case rel => exact ⟨k + 1, hlt, by go_num, by rw [HPT.out]; exact own_below hown hb3, Tx.step hb hb3⟩
    case measure => simp [intOf]; omega
   | true =>
    rw [if_pos (by rw [HQP.out, hq])] at hpt
    have HPT := Lib.hid hpt
    have HQ := Lib.hid hq
    clear hpt hq
    have hscap := HSUB.out.cap
    go_wp2_with (go_at_call 131; ((with_reducible refine (CQ.out true HQ.out).mono ?_); rintro e w2 ⟨rfl, hb2⟩; have z3 := cell_later hb2 z2))
    have hb3 := Tx.step hb (Tx.step hb1 hb2)
    have own3 := own_below hown (Tx.step hb1 hb2)
    clear z0 z2 z3 hW1 hown d0 d1 d2 d3
    go_loopw [7, 27] (fun v i wr => ∃ (j : Nat), j ≤ f.subs.length ∧ i = .int .i64 j ∧ Ix.OwnT wr W.heap.size v (acc ++ (Rc.allV (f.subs.take j) codes.data.toList).flatMap fun s => Tx.words s.data.toList) ∧ Below W.heap.size W wr) (fun _ i _ => f.subs.length - (intOf i).toNat)
    case atStart => exact ⟨0, Nat.zero_le _, by go_num, by show Ix.OwnT _ _ _ (acc ++ []); rw [List.append_nil]; exact own3, hb3⟩
    case round =>
     obtain ⟨j, hj, rfl, hown4, hb4⟩ := hrel
     have hb4s := hb4.size
     by_cases hlt2 : j < f.subs.length
     ·obtain ⟨x, hx⟩ : ∃ x, f.subs[j]? = some x := ⟨_, List.getElem?_eq_getElem hlt2⟩
      obtain ⟨sb, so, rfl, hsb, x0, x1⟩ := HSUB.out.get hx
      replace x0 := cell_later hb4 x0
      replace x1 := cell_later hb4 x1
      have hxg := HGD.out.2 x (List.mem_of_getElem? hx)
      have hwt := Ix.words_take (codes := codes.data.toList) hx
      have hwl := Ix.words_le codes.data.toList f.subs j
      have hwl2 := Ix.words_le codes.data.toList f.subs (j + 1)
      have hwf2 : ((Rc.allV f.subs codes.data.toList).flatMap fun s => Tx.words s.data.toList).length ≤ 12500 := hwf
      obtain ⟨pr, hpr⟩ : ∃ pr, ((Rc.allV (f.subs.take j) codes.data.toList).flatMap fun s => Tx.words s.data.toList) = pr := ⟨_, rfl⟩
      rw [hwt] at hwl2
      rw [hpr] at hown4 hwt hwl hwl2
      have hix := Rc.indexByte_mem codes.data.toList x.1
      have hhc : Rc.hasCode codes.data.toList x.1 = codes.data.toList.contains x.1 := by unfold Rc.hasCode; rw [HEMP.out, Bool.false_or]
      have hal : (acc ++ pr).length ≤ 1050000 := by rw [List.length_append]; omega
      obtain ⟨W2, hW2⟩ : ∃ W2, wr.alloc (.cells #[.int .u8 x.1.toNat, .string x.2] 96) = W2 := ⟨_, rfl⟩
      have hb6 : Below wr.heap.size wr W2 := by rw [← hW2]; exact Tx.newb _ _
      have y0 : W2.cell? ⟨wr.heap.size, 0, none⟩ = some (.int .u8 x.1.toNat) := by rw [← hW2]; simp
      have y1 : W2.cell? ⟨wr.heap.size, 1, none⟩ = some (.string x.2) := by rw [← hW2]; simp
      have own4 := own_below hown4 hb6
      by_cases hm : x.1 ∈ codes.data.toList
      ·have hge := hix.2 hm
       rw [if_pos (by rw [hhc]; simpa using hm)] at hwt hwl2
       obtain ⟨ws, hws⟩ : ∃ ws, Tx.words x.2.data.toList = ws := ⟨_, rfl⟩
       rw [hws] at hwt hwl2
       rw [List.length_append] at hwl2
       have HWS := Lib.hid hws
       have HWT := Lib.hid hwt
       obtain ⟨A, hA⟩ : ∃ A, acc ++ pr = A := ⟨_, rfl⟩
       have HA := Lib.hid hA
       rw [hA] at own4 hal
       have CW : Hid (Calls Tryz.prog 208 #[.string x.2] W2 fun e w' => ∃ A xs, e = .returned (.slice (some ⟨A, 0, none⟩) xs.length xs.length) ∧ xs.map (·.data.toList) = ws ∧ SLA w' (some ⟨A, 0, none⟩) xs.length xs ∧ W2.heap.size ≤ A ∧ Below W2.heap.size W2 w') := Lib.hid (by
        rw [← hws]
        exact text_Words_c x.2 W2 (hG.below (Tx.step hB (Tx.step hb4 hb6))) (by have := hxg.1; omega) hxg.2)
       have hwsl : ws.length ≤ 12500 := by omega
       clear hix hhc hwt hwl hwl2 hwf2 hx hpr hm hws hA hxg hown4 hwf hpl2
       go_wp2_with (first
        | (at_builtin; go_must (refine wpList_append_sl rfl _ _ 26 rfl W.heap.size 9 i0 _ 1 16 Tryz.underlying26 HI.out hz0 hz1 hz2 rfl (by decide) _ A.length _ rfl own5 (some ⟨A5, 0, none⟩) xs.length xs.length (xs.map Value.string) rfl (by simp) (fun h9 => by cases h9) (fun ad had => by cases had; exact hs5.out.cells _ rfl) (SLA.ones xs) (by unfold maxLen; have := HK.out; omega) (by have := HK.out; omega) (by omega) ?_); intro v7 w7 hown7 hg7 hnil7)
        | (go_at_call 185; refine (Tryz.strings_IndexByte codes x.1.toNat _).mono ?_; rintro e w4 ⟨rfl, rfl⟩)
        | (go_at_call 208; ((with_reducible refine CW.out.mono ?_); rintro e w5 ⟨A5, xs, rfl, hxs, hs5', hA5, hb7⟩; have hs5 := Lib.hid hs5'; have HXS := Lib.hid hxs; have own5 := own_below own4 hb7; have hb8 := Tx.step hb6 hb7; have hxl : xs.length = ws.length := (by rw [← HXS.out, List.length_map]); have HK : Hid (A.length + xs.length ≤ 1100000) := Lib.hid (by rw [hxl]; omega); have hs7 := hb8.size; have HXL := Lib.hid hxl; clear hs5' hxs hxl)))
       have hgA : Below W.heap.size W w7 := (Tx.step hb4 hb8).grown hg7 (by omega) (fun i hi => (own5.lt i hi).1)
       go_roundw
       case rel => exact ⟨j + 1, hlt2, by go_num, by rw [HWT.out, ← List.append_assoc, HA.out]; exact Ix.own_words hown7 HXS.out, hgA⟩
       case measure => simp [intOf]; omega
      ·have hge : Lib.indexByte codes.data.toList x.1 < 0 := by
        have h9 : ¬ 0 ≤ Lib.indexByte codes.data.toList x.1 := fun h8 => hm (hix.1 h8)
        omega
       rw [if_neg (by rw [hhc]; simpa using hm), List.append_nil] at hwt
       have HWT := Lib.hid hwt
       clear hix hhc hwt hwl hwl2 hwf2 hx hpr hm hal
       go_wp2_with (go_at_call 185; refine (Tryz.strings_IndexByte codes x.1.toNat _).mono ?_; rintro e w4 ⟨rfl, rfl⟩)
       go_roundw
       case rel => exact ⟨j + 1, hlt2, by go_num, by rw [HWT.out]; exact own4, Tx.step hb4 hb6⟩
       case measure => simp [intOf]; omega
     ·obtain rfl : j = f.subs.length := by omega
      rw [List.take_length] at hown4
      go_wp2
      go_roundw
      case rel => exact ⟨k + 1, hlt, by go_num, by rw [HPT.out]; exact hown4, hb4⟩
      case measure => simp [intOf]; omega
  ·obtain rfl : k = fs.length := by omega
   rw [List.take_length] at hown
   go_wp2
   go_ret
   exact ⟨_, rfl, Ix.own_lower hown hbB, Tx.step hB hb⟩
set_option maxHeartbeats 3200000 in
theorem picks_p5_c (fs : List Rc.Fl) (a : Option Addr) (c : Nat) (id ver kind : Int) (lang : ByteArray)  (q : ByteArray → Bool) (p : Rc.Fl → Bool) (hqp : ∀ f, p f = q f.tag) (codes : ByteArray) (hc0 : codes.data.toList ≠ []) (w : World) (hG : G w) (h : Rc.FldA w a c fs) (hM : Ix.Mod fs) (hV : ∀ f ∈ fs, Rc.Gd f)
  (CQ : ∀ w' tag, Below w.heap.size w w' → Calls Tryz.prog 133 #[.string tag] w' fun e w'' => e = .returned (.bool (q tag)) ∧ Below w'.heap.size w' w'') :
  Calls Tryz.prog 129 #[.agg #[.int .i64 id, .int .i64 ver, .int .i64 kind, .string lang, .slice a fs.length c], .func (.func 133) #[] #[], .string codes] w fun e w' => ∃ v, e = .returned v ∧ Ix.OwnT w' w.heap.size v (Ix.pick p codes.data.toList fs) ∧ Below w.heap.size w w' := by
 obtain ⟨i0, hi0, hz0, hz1, hz2⟩ := info_parts info_str
 have HI := Lib.hid hi0; clear hi0
 obtain ⟨W, hW⟩ : ∃ W, w.alloc (.cells #[.int .i64 id, .int .i64 ver, .int .i64 kind, .string lang, .slice a fs.length c] 51) = W := ⟨_, rfl⟩
 have hB : Below w.heap.size w W := by rw [← hW]; exact Tx.newb _ _
 have c4 : W.cell? ⟨w.heap.size, 4, none⟩ = some (.slice a fs.length c) := by rw [← hW]; simp
 have HS := Lib.hid (h.below hB); clear h
 have hlen := hM.len
 have hcap := HS.out.cap
 have hbB := hB.size
 have HCQ := Lib.hid CQ; clear CQ
 have HQP := Lib.hid hqp; clear hqp
 have HV := Lib.hid hV; clear hV
 have hemp : codes.data.toList.isEmpty = false := by simpa using hc0
 have HEMP := Lib.hid hemp
 clear hc0 hemp
 go_enter Tryz.func129, Tryz.ntmps129
 go_wp2
 clear hW
 go_loopw [7, 15] (fun v i wr => ∃ (k : Nat), k ≤ fs.length ∧ i = .int .i64 k ∧ Ix.OwnT wr W.heap.size v (Ix.pick p codes.data.toList (fs.take k)) ∧ Below W.heap.size W wr) (fun _ i _ => fs.length - (intOf i).toNat)
 case atStart => exact ⟨0, Nat.zero_le _, by go_num, World.ownsRow_nil _ _ _ _, Below.refl _ _⟩
 case round =>
  obtain ⟨k, hk, rfl, hown, hb⟩ := hrel
  have hbs := hb.size
  by_cases hlt : k < fs.length
  ·obtain ⟨f, hf⟩ : ∃ f, fs[k]? = some f := ⟨_, List.getElem?_eq_getElem hlt⟩
   have hfm := List.mem_of_getElem? hf
   obtain ⟨B, o, sa, sc, rfl, hbl, d0, d1, d2, d3, hsub⟩ := HS.out.get hf
   replace d0 := cell_later hb d0
   replace d1 := cell_later hb d1
   replace d2 := cell_later hb d2
   replace d3 := cell_later hb d3
   have hpt := Ix.pick_take (p := p) (codes := codes.data.toList) hf
   have hpl := Ix.pick_le (p := p) (codes := codes.data.toList) (fs := fs.take k) (fun g hg => hM.words g (List.mem_of_mem_take hg) _)
   rw [List.length_take] at hpl
   have hwf := hM.words f hfm codes.data.toList
   have hsl := hM.subs f hfm
   have HGD := Lib.hid (HV.out f hfm)
   obtain ⟨acc, hacc⟩ : ∃ acc, Ix.pick p codes.data.toList (fs.take k) = acc := ⟨_, rfl⟩
   rw [hacc] at hown hpt hpl
   have hpl2 : acc.length ≤ 1000000 := by omega
   clear hpl hacc hf
   obtain ⟨W1, hW1⟩ : ∃ W1, wr.alloc (.cells #[.string f.tag, .string f.ind, .slice sa f.subs.length sc, .int .i64 f.auth] 84) = W1 := ⟨_, rfl⟩
   have hb1 : Below wr.heap.size wr W1 := by rw [← hW1]; exact Tx.newb _ _
   have z0 : W1.cell? ⟨wr.heap.size, 0, none⟩ = some (.string f.tag) := by rw [← hW1]; simp
   have z2 : W1.cell? ⟨wr.heap.size, 2, none⟩ = some (.slice sa f.subs.length sc) := by rw [← hW1]; simp
   have HSUB := Lib.hid hsub; clear hsub
   have CQ : Hid (∀ b, q f.tag = b → Calls Tryz.prog 133 #[.string f.tag] W1 fun e w'' => e = .returned (.bool b) ∧ Below W1.heap.size W1 w'') := Lib.hid (fun b hb9 => by rw [← hb9]; exact HCQ.out W1 f.tag (Tx.step hB (Tx.step hb hb1)))
   cases hq : q f.tag with
   | false =>
    rw [if_neg (by rw [HQP.out, hq]; decide), List.append_nil] at hpt
    have HPT := Lib.hid hpt
    have HQ := Lib.hid hq
    clear hpt hq
    go_wp2_with (go_at_call 133; ((with_reducible refine (CQ.out false HQ.out).mono ?_); rintro e w2 ⟨rfl, hb2⟩))
    have hb3 := Tx.step hb1 hb2
    go_roundw
    case rel => exact ⟨k + 1, hlt, by go_num, by rw [HPT.out]; exact own_below hown hb3, Tx.step hb hb3⟩
    case measure => simp [intOf]; omega
   | true =>
    rw [if_pos (by rw [HQP.out, hq])] at hpt
    have HPT := Lib.hid hpt
    have HQ := Lib.hid hq
    clear hpt hq
    have hscap := HSUB.out.cap
    go_wp2_with (go_at_call 133; ((with_reducible refine (CQ.out true HQ.out).mono ?_); rintro e w2 ⟨rfl, hb2⟩; have z3 := cell_later hb2 z2))
    have hb3 := Tx.step hb (Tx.step hb1 hb2)
    have own3 := own_below hown (Tx.step hb1 hb2)
    clear z0 z2 z3 hW1 hown d0 d1 d2 d3
    go_loopw [7, 27] (fun v i wr => ∃ (j : Nat), j ≤ f.subs.length ∧ i = .int .i64 j ∧ Ix.OwnT wr W.heap.size v (acc ++ (Rc.allV (f.subs.take j) codes.data.toList).flatMap fun s => Tx.words s.data.toList) ∧ Below W.heap.size W wr) (fun _ i _ => f.subs.length - (intOf i).toNat)
    case atStart => exact ⟨0, Nat.zero_le _, by go_num, by show Ix.OwnT _ _ _ (acc ++ []); rw [List.append_nil]; exact own3, hb3⟩
    case round =>
     obtain ⟨j, hj, rfl, hown4, hb4⟩ := hrel
     have hb4s := hb4.size
     by_cases hlt2 : j < f.subs.length
     ·obtain ⟨x, hx⟩ : ∃ x, f.subs[j]? = some x := ⟨_, List.getElem?_eq_getElem hlt2⟩
      obtain ⟨sb, so, rfl, hsb, x0, x1⟩ := HSUB.out.get hx
      replace x0 := cell_later hb4 x0
      replace x1 := cell_later hb4 x1
      have hxg := HGD.out.2 x (List.mem_of_getElem? hx)
      have hwt := Ix.words_take (codes := codes.data.toList) hx
      have hwl := Ix.words_le codes.data.toList f.subs j
      have hwl2 := Ix.words_le codes.data.toList f.subs (j + 1)
      have hwf2 : ((Rc.allV f.subs codes.data.toList).flatMap fun s => Tx.words s.data.toList).length ≤ 12500 := hwf
      obtain ⟨pr, hpr⟩ : ∃ pr, ((Rc.allV (f.subs.take j) codes.data.toList).flatMap fun s => Tx.words s.data.toList) = pr := ⟨_, rfl⟩
      rw [hwt] at hwl2
      rw [hpr] at hown4 hwt hwl hwl2
      have hix := Rc.indexByte_mem codes.data.toList x.1
      have hhc : Rc.hasCode codes.data.toList x.1 = codes.data.toList.contains x.1 := by unfold Rc.hasCode; rw [HEMP.out, Bool.false_or]
      have hal : (acc ++ pr).length ≤ 1050000 := by rw [List.length_append]; omega
      obtain ⟨W2, hW2⟩ : ∃ W2, wr.alloc (.cells #[.int .u8 x.1.toNat, .string x.2] 96) = W2 := ⟨_, rfl⟩
      have hb6 : Below wr.heap.size wr W2 := by rw [← hW2]; exact Tx.newb _ _
      have y0 : W2.cell? ⟨wr.heap.size, 0, none⟩ = some (.int .u8 x.1.toNat) := by rw [← hW2]; simp
      have y1 : W2.cell? ⟨wr.heap.size, 1, none⟩ = some (.string x.2) := by rw [← hW2]; simp
      have own4 := own_below hown4 hb6
      by_cases hm : x.1 ∈ codes.data.toList
      ·have hge := hix.2 hm
       rw [if_pos (by rw [hhc]; simpa using hm)] at hwt hwl2
       obtain ⟨ws, hws⟩ : ∃ ws, Tx.words x.2.data.toList = ws := ⟨_, rfl⟩
       rw [hws] at hwt hwl2
       rw [List.length_append] at hwl2
       have HWS := Lib.hid hws
       have HWT := Lib.hid hwt
       obtain ⟨A, hA⟩ : ∃ A, acc ++ pr = A := ⟨_, rfl⟩
       have HA := Lib.hid hA
       rw [hA] at own4 hal
       have CW : Hid (Calls Tryz.prog 208 #[.string x.2] W2 fun e w' => ∃ A xs, e = .returned (.slice (some ⟨A, 0, none⟩) xs.length xs.length) ∧ xs.map (·.data.toList) = ws ∧ SLA w' (some ⟨A, 0, none⟩) xs.length xs ∧ W2.heap.size ≤ A ∧ Below W2.heap.size W2 w') := Lib.hid (by
        rw [← hws]
        exact text_Words_c x.2 W2 (hG.below (Tx.step hB (Tx.step hb4 hb6))) (by have := hxg.1; omega) hxg.2)
       have hwsl : ws.length ≤ 12500 := by omega
       clear hix hhc hwt hwl hwl2 hwf2 hx hpr hm hws hA hxg hown4 hwf hpl2
       go_wp2_with (first
        | (at_builtin; go_must (refine wpList_append_sl rfl _ _ 26 rfl W.heap.size 9 i0 _ 1 16 Tryz.underlying26 HI.out hz0 hz1 hz2 rfl (by decide) _ A.length _ rfl own5 (some ⟨A5, 0, none⟩) xs.length xs.length (xs.map Value.string) rfl (by simp) (fun h9 => by cases h9) (fun ad had => by cases had; exact hs5.out.cells _ rfl) (SLA.ones xs) (by unfold maxLen; have := HK.out; omega) (by have := HK.out; omega) (by omega) ?_); intro v7 w7 hown7 hg7 hnil7)
        | (go_at_call 185; refine (Tryz.strings_IndexByte codes x.1.toNat _).mono ?_; rintro e w4 ⟨rfl, rfl⟩)
        | (go_at_call 208; ((with_reducible refine CW.out.mono ?_); rintro e w5 ⟨A5, xs, rfl, hxs, hs5', hA5, hb7⟩; have hs5 := Lib.hid hs5'; have HXS := Lib.hid hxs; have own5 := own_below own4 hb7; have hb8 := Tx.step hb6 hb7; have hxl : xs.length = ws.length := (by rw [← HXS.out, List.length_map]); have HK : Hid (A.length + xs.length ≤ 1100000) := Lib.hid (by rw [hxl]; omega); have hs7 := hb8.size; have HXL := Lib.hid hxl; clear hs5' hxs hxl)))
       have hgA : Below W.heap.size W w7 := (Tx.step hb4 hb8).grown hg7 (by omega) (fun i hi => (own5.lt i hi).1)
       go_roundw
       case rel => exact ⟨j + 1, hlt2, by go_num, by rw [HWT.out, ← List.append_assoc, HA.out]; exact Ix.own_words hown7 HXS.out, hgA⟩
       case measure => simp [intOf]; omega
      ·have hge : Lib.indexByte codes.data.toList x.1 < 0 := by
        have h9 : ¬ 0 ≤ Lib.indexByte codes.data.toList x.1 := fun h8 => hm (hix.1 h8)
        omega
       rw [if_neg (by rw [hhc]; simpa using hm), List.append_nil] at hwt
       have HWT := Lib.hid hwt
       clear hix hhc hwt hwl hwl2 hwf2 hx hpr hm hal
       go_wp2_with (go_at_call 185; refine (Tryz.strings_IndexByte codes x.1.toNat _).mono ?_; rintro e w4 ⟨rfl, rfl⟩)
       go_roundw
       case rel => exact ⟨j + 1, hlt2, by go_num, by rw [HWT.out]; exact own4, Tx.step hb4 hb6⟩
       case measure => simp [intOf]; omega
     ·obtain rfl : j = f.subs.length := by omega
      rw [List.take_length] at hown4
      go_wp2
      go_roundw
      case rel => exact ⟨k + 1, hlt, by go_num, by rw [HPT.out]; exact hown4, hb4⟩
      case measure => simp [intOf]; omega
  ·obtain rfl : k = fs.length := by omega
   rw [List.take_length] at hown
   go_wp2
   go_ret
   exact ⟨_, rfl, Ix.own_lower hown hbB, Tx.step hB hb⟩
set_option maxHeartbeats 3200000 in
theorem picks_tg_c (fs : List Rc.Fl) (a : Option Addr) (c : Nat) (id ver kind : Int) (lang : ByteArray) (bx : Nat) (q : ByteArray → Bool) (p : Rc.Fl → Bool) (hqp : ∀ f, p f = q f.tag) (codes : ByteArray) (hc0 : codes.data.toList ≠ []) (w : World) (hG : G w) (h : Rc.FldA w a c fs) (hM : Ix.Mod fs) (hV : ∀ f ∈ fs, Rc.Gd f)
  (CQ : ∀ w' tag, Below w.heap.size w w' → Calls Tryz.prog 209 #[.string tag, .pointer (some ⟨bx, 0, none⟩)] w' fun e w'' => e = .returned (.bool (q tag)) ∧ Below w'.heap.size w' w'') :
  Calls Tryz.prog 129 #[.agg #[.int .i64 id, .int .i64 ver, .int .i64 kind, .string lang, .slice a fs.length c], .func (.func 209) #[] #[.pointer (some ⟨bx, 0, none⟩)], .string codes] w fun e w' => ∃ v, e = .returned v ∧ Ix.OwnT w' w.heap.size v (Ix.pick p codes.data.toList fs) ∧ Below w.heap.size w w' := by
 obtain ⟨i0, hi0, hz0, hz1, hz2⟩ := info_parts info_str
 have HI := Lib.hid hi0; clear hi0
 obtain ⟨W, hW⟩ : ∃ W, w.alloc (.cells #[.int .i64 id, .int .i64 ver, .int .i64 kind, .string lang, .slice a fs.length c] 51) = W := ⟨_, rfl⟩
 have hB : Below w.heap.size w W := by rw [← hW]; exact Tx.newb _ _
 have c4 : W.cell? ⟨w.heap.size, 4, none⟩ = some (.slice a fs.length c) := by rw [← hW]; simp
 have HS := Lib.hid (h.below hB); clear h
 have hlen := hM.len
 have hcap := HS.out.cap
 have hbB := hB.size
 have HCQ := Lib.hid CQ; clear CQ
 have HQP := Lib.hid hqp; clear hqp
 have HV := Lib.hid hV; clear hV
 have hemp : codes.data.toList.isEmpty = false := by simpa using hc0
 have HEMP := Lib.hid hemp
 clear hc0 hemp
 go_enter Tryz.func129, Tryz.ntmps129
 go_wp2
 clear hW
 go_loopw [7, 15] (fun v i wr => ∃ (k : Nat), k ≤ fs.length ∧ i = .int .i64 k ∧ Ix.OwnT wr W.heap.size v (Ix.pick p codes.data.toList (fs.take k)) ∧ Below W.heap.size W wr) (fun _ i _ => fs.length - (intOf i).toNat)
 case atStart => exact ⟨0, Nat.zero_le _, by go_num, World.ownsRow_nil _ _ _ _, Below.refl _ _⟩
 case round =>
  obtain ⟨k, hk, rfl, hown, hb⟩ := hrel
  have hbs := hb.size
  by_cases hlt : k < fs.length
  ·obtain ⟨f, hf⟩ : ∃ f, fs[k]? = some f := ⟨_, List.getElem?_eq_getElem hlt⟩
   have hfm := List.mem_of_getElem? hf
   obtain ⟨B, o, sa, sc, rfl, hbl, d0, d1, d2, d3, hsub⟩ := HS.out.get hf
   replace d0 := cell_later hb d0
   replace d1 := cell_later hb d1
   replace d2 := cell_later hb d2
   replace d3 := cell_later hb d3
   have hpt := Ix.pick_take (p := p) (codes := codes.data.toList) hf
   have hpl := Ix.pick_le (p := p) (codes := codes.data.toList) (fs := fs.take k) (fun g hg => hM.words g (List.mem_of_mem_take hg) _)
   rw [List.length_take] at hpl
   have hwf := hM.words f hfm codes.data.toList
   have hsl := hM.subs f hfm
   have HGD := Lib.hid (HV.out f hfm)
   obtain ⟨acc, hacc⟩ : ∃ acc, Ix.pick p codes.data.toList (fs.take k) = acc := ⟨_, rfl⟩
   rw [hacc] at hown hpt hpl
   have hpl2 : acc.length ≤ 1000000 := by omega
   clear hpl hacc hf
   obtain ⟨W1, hW1⟩ : ∃ W1, wr.alloc (.cells #[.string f.tag, .string f.ind, .slice sa f.subs.length sc, .int .i64 f.auth] 84) = W1 := ⟨_, rfl⟩
   have hb1 : Below wr.heap.size wr W1 := by rw [← hW1]; exact Tx.newb _ _
   have z0 : W1.cell? ⟨wr.heap.size, 0, none⟩ = some (.string f.tag) := by rw [← hW1]; simp
   have z2 : W1.cell? ⟨wr.heap.size, 2, none⟩ = some (.slice sa f.subs.length sc) := by rw [← hW1]; simp
   have HSUB := Lib.hid hsub; clear hsub
   have CQ : Hid (∀ b, q f.tag = b → Calls Tryz.prog 209 #[.string f.tag, .pointer (some ⟨bx, 0, none⟩)] W1 fun e w'' => e = .returned (.bool b) ∧ Below W1.heap.size W1 w'') := Lib.hid (fun b hb9 => by rw [← hb9]; exact HCQ.out W1 f.tag (Tx.step hB (Tx.step hb hb1)))
   cases hq : q f.tag with
   | false =>
    rw [if_neg (by rw [HQP.out, hq]; decide), List.append_nil] at hpt
    have HPT := Lib.hid hpt
    have HQ := Lib.hid hq
    clear hpt hq
    go_wp2_with (go_at_call 209; ((with_reducible refine (CQ.out false HQ.out).mono ?_); rintro e w2 ⟨rfl, hb2⟩))
    have hb3 := Tx.step hb1 hb2
    go_roundw
    case rel => exact ⟨k + 1, hlt, by go_num, by rw [HPT.out]; exact own_below hown hb3, Tx.step hb hb3⟩
    case measure => simp [intOf]; omega
   | true =>
    rw [if_pos (by rw [HQP.out, hq])] at hpt
    have HPT := Lib.hid hpt
    have HQ := Lib.hid hq
    clear hpt hq
    have hscap := HSUB.out.cap
    go_wp2_with (go_at_call 209; ((with_reducible refine (CQ.out true HQ.out).mono ?_); rintro e w2 ⟨rfl, hb2⟩; have z3 := cell_later hb2 z2))
    have hb3 := Tx.step hb (Tx.step hb1 hb2)
    have own3 := own_below hown (Tx.step hb1 hb2)
    clear z0 z2 z3 hW1 hown d0 d1 d2 d3
    go_loopw [7, 27] (fun v i wr => ∃ (j : Nat), j ≤ f.subs.length ∧ i = .int .i64 j ∧ Ix.OwnT wr W.heap.size v (acc ++ (Rc.allV (f.subs.take j) codes.data.toList).flatMap fun s => Tx.words s.data.toList) ∧ Below W.heap.size W wr) (fun _ i _ => f.subs.length - (intOf i).toNat)
    case atStart => exact ⟨0, Nat.zero_le _, by go_num, by show Ix.OwnT _ _ _ (acc ++ []); rw [List.append_nil]; exact own3, hb3⟩
    case round =>
     obtain ⟨j, hj, rfl, hown4, hb4⟩ := hrel
     have hb4s := hb4.size
     by_cases hlt2 : j < f.subs.length
     ·obtain ⟨x, hx⟩ : ∃ x, f.subs[j]? = some x := ⟨_, List.getElem?_eq_getElem hlt2⟩
      obtain ⟨sb, so, rfl, hsb, x0, x1⟩ := HSUB.out.get hx
      replace x0 := cell_later hb4 x0
      replace x1 := cell_later hb4 x1
      have hxg := HGD.out.2 x (List.mem_of_getElem? hx)
      have hwt := Ix.words_take (codes := codes.data.toList) hx
      have hwl := Ix.words_le codes.data.toList f.subs j
      have hwl2 := Ix.words_le codes.data.toList f.subs (j + 1)
      have hwf2 : ((Rc.allV f.subs codes.data.toList).flatMap fun s => Tx.words s.data.toList).length ≤ 12500 := hwf
      obtain ⟨pr, hpr⟩ : ∃ pr, ((Rc.allV (f.subs.take j) codes.data.toList).flatMap fun s => Tx.words s.data.toList) = pr := ⟨_, rfl⟩
      rw [hwt] at hwl2
      rw [hpr] at hown4 hwt hwl hwl2
      have hix := Rc.indexByte_mem codes.data.toList x.1
      have hhc : Rc.hasCode codes.data.toList x.1 = codes.data.toList.contains x.1 := by unfold Rc.hasCode; rw [HEMP.out, Bool.false_or]
      have hal : (acc ++ pr).length ≤ 1050000 := by rw [List.length_append]; omega
      obtain ⟨W2, hW2⟩ : ∃ W2, wr.alloc (.cells #[.int .u8 x.1.toNat, .string x.2] 96) = W2 := ⟨_, rfl⟩
      have hb6 : Below wr.heap.size wr W2 := by rw [← hW2]; exact Tx.newb _ _
      have y0 : W2.cell? ⟨wr.heap.size, 0, none⟩ = some (.int .u8 x.1.toNat) := by rw [← hW2]; simp
      have y1 : W2.cell? ⟨wr.heap.size, 1, none⟩ = some (.string x.2) := by rw [← hW2]; simp
      have own4 := own_below hown4 hb6
      by_cases hm : x.1 ∈ codes.data.toList
      ·have hge := hix.2 hm
       rw [if_pos (by rw [hhc]; simpa using hm)] at hwt hwl2
       obtain ⟨ws, hws⟩ : ∃ ws, Tx.words x.2.data.toList = ws := ⟨_, rfl⟩
       rw [hws] at hwt hwl2
       rw [List.length_append] at hwl2
       have HWS := Lib.hid hws
       have HWT := Lib.hid hwt
       obtain ⟨A, hA⟩ : ∃ A, acc ++ pr = A := ⟨_, rfl⟩
       have HA := Lib.hid hA
       rw [hA] at own4 hal
       have CW : Hid (Calls Tryz.prog 208 #[.string x.2] W2 fun e w' => ∃ A xs, e = .returned (.slice (some ⟨A, 0, none⟩) xs.length xs.length) ∧ xs.map (·.data.toList) = ws ∧ SLA w' (some ⟨A, 0, none⟩) xs.length xs ∧ W2.heap.size ≤ A ∧ Below W2.heap.size W2 w') := Lib.hid (by
        rw [← hws]
        exact text_Words_c x.2 W2 (hG.below (Tx.step hB (Tx.step hb4 hb6))) (by have := hxg.1; omega) hxg.2)
       have hwsl : ws.length ≤ 12500 := by omega
       clear hix hhc hwt hwl hwl2 hwf2 hx hpr hm hws hA hxg hown4 hwf hpl2
       go_wp2_with (first
        | (at_builtin; go_must (refine wpList_append_sl rfl _ _ 26 rfl W.heap.size 9 i0 _ 1 16 Tryz.underlying26 HI.out hz0 hz1 hz2 rfl (by decide) _ A.length _ rfl own5 (some ⟨A5, 0, none⟩) xs.length xs.length (xs.map Value.string) rfl (by simp) (fun h9 => by cases h9) (fun ad had => by cases had; exact hs5.out.cells _ rfl) (SLA.ones xs) (by unfold maxLen; have := HK.out; omega) (by have := HK.out; omega) (by omega) ?_); intro v7 w7 hown7 hg7 hnil7)
        | (go_at_call 185; refine (Tryz.strings_IndexByte codes x.1.toNat _).mono ?_; rintro e w4 ⟨rfl, rfl⟩)
        | (go_at_call 208; ((with_reducible refine CW.out.mono ?_); rintro e w5 ⟨A5, xs, rfl, hxs, hs5', hA5, hb7⟩; have hs5 := Lib.hid hs5'; have HXS := Lib.hid hxs; have own5 := own_below own4 hb7; have hb8 := Tx.step hb6 hb7; have hxl : xs.length = ws.length := (by rw [← HXS.out, List.length_map]); have HK : Hid (A.length + xs.length ≤ 1100000) := Lib.hid (by rw [hxl]; omega); have hs7 := hb8.size; have HXL := Lib.hid hxl; clear hs5' hxs hxl)))
       have hgA : Below W.heap.size W w7 := (Tx.step hb4 hb8).grown hg7 (by omega) (fun i hi => (own5.lt i hi).1)
       go_roundw
       case rel => exact ⟨j + 1, hlt2, by go_num, by rw [HWT.out, ← List.append_assoc, HA.out]; exact Ix.own_words hown7 HXS.out, hgA⟩
       case measure => simp [intOf]; omega
      ·have hge : Lib.indexByte codes.data.toList x.1 < 0 := by
        have h9 : ¬ 0 ≤ Lib.indexByte codes.data.toList x.1 := fun h8 => hm (hix.1 h8)
        omega
       rw [if_neg (by rw [hhc]; simpa using hm), List.append_nil] at hwt
       have HWT := Lib.hid hwt
       clear hix hhc hwt hwl hwl2 hwf2 hx hpr hm hal
       go_wp2_with (go_at_call 185; refine (Tryz.strings_IndexByte codes x.1.toNat _).mono ?_; rintro e w4 ⟨rfl, rfl⟩)
       go_roundw
       case rel => exact ⟨j + 1, hlt2, by go_num, by rw [HWT.out]; exact own4, Tx.step hb4 hb6⟩
       case measure => simp [intOf]; omega
     ·obtain rfl : j = f.subs.length := by omega
      rw [List.take_length] at hown4
      go_wp2
      go_roundw
      case rel => exact ⟨k + 1, hlt, by go_num, by rw [HPT.out]; exact hown4, hb4⟩
      case measure => simp [intOf]; omega
  ·obtain rfl : k = fs.length := by omega
   rw [List.take_length] at hown
   go_wp2
   go_ret
   exact ⟨_, rfl, Ix.own_lower hown hbB, Tx.step hB hb⟩
end Go.Proofs.YtlakomilichhnaaGreatDoor
namespace Go.Proofs.YtlakomilichhnaaGreatDoor
open Go.RowKit
set_option maxRecDepth 100000
namespace Ix
open Rc
def numS (subs : List (UInt8 × ByteArray)) : List By := numL (allV subs [97])
theorem numS_take {subs : List (UInt8 × ByteArray)} {k : Nat} {x : UInt8 × ByteArray} (h : subs[k]? = some x) : numS (subs.take (k + 1)) = numS (subs.take k) ++ (if x.1 = 97 ∧ plainB x.2.data.toList ≠ [] then [plainB x.2.data.toList] else []) := by
 unfold numS
 rw [allV_take _ h]
 have hh : hasCode [97] x.1 = true ↔ x.1 = 97 := by unfold hasCode; simp [eq_comm]
 have app : ∀ A B : List ByteArray, numL (A ++ B) = numL A ++ numL B := fun A B => by unfold numL; rw [List.map_append, List.filter_append]
 rw [app]
 congr 1
 by_cases hc : x.1 = 97
 ·rw [if_pos (hh.2 hc)]
  by_cases hp : plainB x.2.data.toList = []
  ·rw [if_neg (fun h9 => h9.2 hp)]; unfold numL; simp [hp]
  ·rw [if_pos ⟨hc, hp⟩]; unfold numL; simp [hp]
 ·rw [if_neg (fun h9 => hc (hh.1 h9)), if_neg (fun h9 => hc h9.1)]; rfl
theorem numS_all (f : Fl) : numS f.subs = numF f := rfl
theorem numS_len (subs : List (UInt8 × ByteArray)) : (numS subs).length ≤ subs.length := by
 unfold numS
 refine Nat.le_trans (numL_le _) ?_
 unfold allV
 rw [List.length_map]
 exact List.length_filter_le _ _
theorem plainB_len : ∀ (n : Nat) (l : By), l.length ≤ n → (plainB l).length ≤ l.length
 | 0, l, h => by
  have := List.eq_nil_of_length_eq_zero (by omega : l.length = 0)
  subst this
  rw [plainB_nil]
  exact Nat.le_refl _
 | n + 1, [], _ => by rw [plainB_nil]; exact Nat.le_refl _
 | n + 1, c :: r, h => by
  rw [List.length_cons] at h ⊢
  have h1 := plainB_len n r (by omega)
  have h2 := plainB_len n r.tail (by rw [List.length_tail]; omega)
  rw [List.length_tail] at h2
  rw [plainB_cons]
  split
  ·omega
  ·split
   ·omega
   ·split <;> rw [List.length_cons] <;> omega
end Ix
set_option maxHeartbeats 800000 in
theorem ix_num_c (c : Nat) (hc : c ≤ 1114111) (w : World) : Calls Tryz.prog 211 #[.int .i32 c] w fun e w' => e = .returned (.int .i32 (Ix.numC c)) ∧ Below w.heap.size w w' := by
 by_cases h1 : c = 45
 ·subst h1
  have HN : Hid (Ix.numC ((45 : Nat) : Int) = -1) := Lib.hid (by decide)
  go_enter Tryz.func211, Tryz.ntmps211
  go_wp2
  go_ret
  exact ⟨by rw [HN.out]; rfl, Below.refl _ _⟩
 by_cases h2 : c = 32
 ·subst h2
  have HN : Hid (Ix.numC ((32 : Nat) : Int) = -1) := Lib.hid (by decide)
  go_enter Tryz.func211, Tryz.ntmps211
  go_wp2
  go_ret
  exact ⟨by rw [HN.out]; rfl, Below.refl _ _⟩
 by_cases h3 : c = 160
 ·subst h3
  have HN : Hid (Ix.numC ((160 : Nat) : Int) = -1) := Lib.hid (by decide)
  go_enter Tryz.func211, Tryz.ntmps211
  go_wp2
  go_ret
  exact ⟨by rw [HN.out]; rfl, Below.refl _ _⟩
 have t1 : ((c : Int) == 45) = false := by rw [beq_eq_false_iff_ne]; omega
 have t2 : ((c : Int) == 32) = false := by rw [beq_eq_false_iff_ne]; omega
 have t3 : ((c : Int) == 160) = false := by rw [beq_eq_false_iff_ne]; omega
 by_cases h4 : 65 ≤ c ∧ c ≤ 90
 ·have HN : Hid (Ix.numC (c : Int) = (c : Int) + 32) := Lib.hid (by unfold Ix.numC; rw [if_neg (by omega), if_pos (by omega)])
  have a1 : (65 : Int) ≤ (c : Int) := by omega
  have a2 : (c : Int) ≤ 90 := by omega
  have a3 : 65 ≤ c := by omega
  have a4 : c ≤ 90 := by omega
  clear h1 h2 h3 h4
  go_enter Tryz.func211, Tryz.ntmps211
  go_wp2
  go_ret
  refine ⟨?_, Below.refl _ _⟩
  rw [HN.out]
  show Ending.returned (Value.int .i32 ((c : Int) + 97 - 65)) = _
  rw [show (c : Int) + 97 - 65 = (c : Int) + 32 by omega]
 ·have HN : Hid (Ix.numC (c : Int) = (c : Int)) := Lib.hid (by unfold Ix.numC; rw [if_neg (by omega), if_neg (by omega)])
  by_cases h5 : c < 65
  ·have a1 : ¬ (65 : Int) ≤ (c : Int) := by omega
   have a3 : ¬ 65 ≤ c := by omega
   clear h1 h2 h3 h4
   go_enter Tryz.func211, Tryz.ntmps211
   go_wp2
   go_ret
   exact ⟨by rw [HN.out]; rfl, Below.refl _ _⟩
  ·have a1 : (65 : Int) ≤ (c : Int) := by omega
   have a2 : ¬ (c : Int) ≤ 90 := by omega
   have a3 : 65 ≤ c := by omega
   have a4 : ¬ c ≤ 90 := by omega
   clear h1 h2 h3 h4 h5
   go_enter Tryz.func211, Tryz.ntmps211
   go_wp2
   go_ret
   exact ⟨by rw [HN.out]; rfl, Below.refl _ _⟩
theorem ix_num_enters : ∀ args w, (callFunc 211 args).run Tryz.prog w = .ok (.enter 211 args) w := enters_of Tryz.func211 (by kernel_rfl) rfl
theorem ix_map_c (s : ByteArray) (w : World) (hG : G w) (hs : s.size ≤ 50000000) (hv : Tx.valid s.data.toList = true) :
  Calls Tryz.prog 210 #[.func (.func 211) #[] #[], .string s] w fun e w' => e = .returned (.string ⟨(Ix.plainB s.data.toList).toArray⟩) ∧ Below w.heap.size w w' := by
 have h := Tryz.strings_Map_grows 211 #[] ix_num_enters Ix.numC s w (by omega) (fun W x hx _ => ix_num_c x hx W) (fun x hx => by constructor <;> unfold Ix.numC <;> split <;> (try split) <;> omega) hG.u
 rw [Ix.plain_map _ _ (Nat.le_refl _) hv] at h
 exact h
set_option maxHeartbeats 6400000 in
theorem ix_numbers_c (fs : List Rc.Fl) (a : Option Addr) (c : Nat) (id ver kind : Int) (lang : ByteArray) (w : World) (hG : G w) (h : Rc.FldA w a c fs) (hM : Ix.Mod fs) (hV : ∀ f ∈ fs, Rc.Gd f) :
  Calls Tryz.prog 132 #[.agg #[.int .i64 id, .int .i64 ver, .int .i64 kind, .string lang, .slice a fs.length c]] w fun e w' => ∃ v, e = .returned v ∧ Ix.OwnT w' w.heap.size v (Ix.nums fs) ∧ Below w.heap.size w w' := by
 obtain ⟨i0, hi0, hz0, hz1, hz2⟩ := info_parts info_str
 have HI := Lib.hid hi0; clear hi0
 obtain ⟨W, hW⟩ : ∃ W, w.alloc (.cells #[.int .i64 id, .int .i64 ver, .int .i64 kind, .string lang, .slice a fs.length c] 51) = W := ⟨_, rfl⟩
 have hB : Below w.heap.size w W := by rw [← hW]; exact Tx.newb _ _
 have c4 : W.cell? ⟨w.heap.size, 4, none⟩ = some (.slice a fs.length c) := by rw [← hW]; simp
 have HS := Lib.hid (h.below hB); clear h
 have hlen := hM.len
 have hcap := HS.out.cap
 have hbB := hB.size
 have HV := Lib.hid hV; clear hV
 go_enter Tryz.func132, Tryz.ntmps132
 go_wp2
 clear hW
 go_loopw [3, 12] (fun v i wr => ∃ (k : Nat), k ≤ fs.length ∧ i = .int .i64 k ∧ Ix.OwnT wr W.heap.size v (Ix.nums (fs.take k)) ∧ Below W.heap.size W wr) (fun _ i _ => fs.length - (intOf i).toNat)
 case atStart => exact ⟨0, Nat.zero_le _, by go_num, World.ownsRow_nil _ _ _ _, Below.refl _ _⟩
 case round =>
  obtain ⟨k, hk, rfl, hown, hb⟩ := hrel
  have hbs := hb.size
  by_cases hlt : k < fs.length
  ·obtain ⟨f, hf⟩ : ∃ f, fs[k]? = some f := ⟨_, List.getElem?_eq_getElem hlt⟩
   have hfm := List.mem_of_getElem? hf
   obtain ⟨B, o, sa, sc, rfl, hbl, d0, d1, d2, d3, hsub⟩ := HS.out.get hf
   replace d0 := cell_later hb d0
   replace d1 := cell_later hb d1
   replace d2 := cell_later hb d2
   replace d3 := cell_later hb d3
   have hpt := Ix.nums_take hf
   have hpl := Ix.nums_le (fs := fs.take k) (fun g hg => hM.subs g (List.mem_of_mem_take hg))
   rw [List.length_take] at hpl
   have hsl := hM.subs f hfm
   have HGD := Lib.hid (HV.out f hfm)
   obtain ⟨acc, hacc⟩ : ∃ acc, Ix.nums (fs.take k) = acc := ⟨_, rfl⟩
   rw [hacc] at hown hpt hpl
   have hpl2 : acc.length ≤ 1000000 := by omega
   clear hpl hacc hf
   obtain ⟨W1, hW1⟩ : ∃ W1, wr.alloc (.cells #[.string f.tag, .string f.ind, .slice sa f.subs.length sc, .int .i64 f.auth] 84) = W1 := ⟨_, rfl⟩
   have hb1 : Below wr.heap.size wr W1 := by rw [← hW1]; exact Tx.newb _ _
   have z0 : W1.cell? ⟨wr.heap.size, 0, none⟩ = some (.string f.tag) := by rw [← hW1]; simp
   have z2 : W1.cell? ⟨wr.heap.size, 2, none⟩ = some (.slice sa f.subs.length sc) := by rw [← hW1]; simp
   have HSUB := Lib.hid hsub; clear hsub
   rcases Bool.eq_false_or_eq_true (f.tag.toList == [48, 50, 48]) with t0 | t0
   ·have b0 : Rc.tagIs [48, 50, 48] f = true := by unfold Rc.tagIs; rw [← Lib.toList_data]; exact t0
    have hti : Ix.numB f = true := by unfold Ix.numB; rw [b0]; simp
    clear b0
    rw [if_pos hti] at hpt
    have HPT := Lib.hid hpt
    clear hpt hti
    have hscap := HSUB.out.cap
    go_wp2
    clear hW1 z0
    go_loopw [3, 27] (fun v i wr => ∃ (j : Nat), j ≤ f.subs.length ∧ i = .int .i64 j ∧ Ix.OwnT wr W.heap.size v (acc ++ Ix.numS (f.subs.take j)) ∧ Below W.heap.size W wr) (fun _ i _ => f.subs.length - (intOf i).toNat)
    case atStart => exact ⟨0, Nat.zero_le _, by go_num, by show Ix.OwnT _ _ _ (acc ++ []); rw [List.append_nil]; exact own_below hown hb1, Tx.step hb hb1⟩
    case round =>
     obtain ⟨j, hj, rfl, hown4, hb4⟩ := hrel
     have hb4s := hb4.size
     by_cases hlt2 : j < f.subs.length
     ·obtain ⟨x, hx⟩ : ∃ x, f.subs[j]? = some x := ⟨_, List.getElem?_eq_getElem hlt2⟩
      obtain ⟨sb, so, rfl, hsb, x0, x1⟩ := HSUB.out.get hx
      replace x0 := cell_later hb4 x0
      replace x1 := cell_later hb4 x1
      have hxg := HGD.out.2 x (List.mem_of_getElem? hx)
      have hnt := Ix.numS_take hx
      have hnl := Ix.numS_len (f.subs.take j)
      rw [List.length_take] at hnl
      have hpl9 := Ix.plainB_len _ x.2.data.toList (Nat.le_refl _)
      obtain ⟨A, hA⟩ : ∃ A, acc ++ Ix.numS (f.subs.take j) = A := ⟨_, rfl⟩
      have HK : Hid (A.length ≤ 1500000) := Lib.hid (by rw [← hA, List.length_append]; omega)
      have HA := Lib.hid hA
      rw [hA] at hown4
      obtain ⟨P, hPP⟩ : ∃ P : ByteArray, (⟨(Ix.plainB x.2.data.toList).toArray⟩ : ByteArray) = P := ⟨_, rfl⟩
      have HPP := Lib.hid hPP
      obtain ⟨W2, hW2⟩ : ∃ W2, wr.alloc (.cells #[.int .u8 x.1.toNat, .string x.2] 96) = W2 := ⟨_, rfl⟩
      have hb6 : Below wr.heap.size wr W2 := by rw [← hW2]; exact Tx.newb _ _
      have y0 : W2.cell? ⟨wr.heap.size, 0, none⟩ = some (.int .u8 x.1.toNat) := by rw [← hW2]; simp
      have y1 : W2.cell? ⟨wr.heap.size, 1, none⟩ = some (.string x.2) := by rw [← hW2]; simp
      have own4 := own_below hown4 hb6
      have CMAP : Hid (Calls Tryz.prog 210 #[.func (.func 211) #[] #[], .string x.2] W2 fun e w' => e = .returned (.string P) ∧ Below W2.heap.size W2 w') := Lib.hid (by
       rw [← hPP]
       exact ix_map_c x.2 W2 (hG.below (Tx.step hB (Tx.step hb4 hb6))) (by have := hxg.1; omega) hxg.2)
      clear hA hPP hx hxg hnl hown4 hpl9
      by_cases hP0 : Ix.plainB x.2.data.toList = []
      ·rw [if_neg (fun h9 => h9.2 hP0), List.append_nil] at hnt
       have HNT := Lib.hid hnt
       have hPe : (P.toList == []) = true := by rw [Lib.toList_data, ← HPP.out, hP0]; rfl
       clear hnt hP0
       cases hc97 : ((x.1.toNat : Int) == 97)
       all_goals
        go_wp2_with (go_at_call 210; ((with_reducible refine CMAP.out.mono ?_); rintro e w5 ⟨rfl, hb7⟩; have own5 := own_below own4 hb7; have hb8 := Tx.step hb6 hb7; have v0 := cell_later hb7 y0; have s7 := hb8.size))
        go_roundw
        case rel => exact ⟨j + 1, hlt2, by go_num, by rw [HNT.out, HA.out]; exact own5, Tx.step hb4 hb8⟩
        case measure => simp [intOf]; omega
      ·have hPe : (P.toList == []) = false := by rw [Lib.toList_data, ← HPP.out]; simpa using hP0
       by_cases hc : x.1 = 97
       ·rw [if_pos ⟨hc, hP0⟩] at hnt
        have HNT := Lib.hid hnt
        have hc97 : ((x.1.toNat : Int) == 97) = true := by rw [hc]; rfl
        have HC := Lib.hid hc
        clear hnt hP0 hc
        go_wp2_with (first
         | (at_builtin; go_must (refine wpList_append_sl rfl _ _ 26 rfl W.heap.size 9 i0 _ 1 16 Tryz.underlying26 HI.out hz0 hz1 hz2 rfl (by decide) _ A.length _ rfl (own5.alloc _) (some ⟨_, 0, none⟩) 1 1 [Value.string P] rfl rfl (fun h9 => by cases h9) (fun ad had => by cases had; exact Br.cells_new_at _ _ (by first | rfl | simp) _ _) (by simp [Value.oneCell']) (by unfold maxLen; have := HK.out; omega) (by have := HK.out; omega) (by simp; omega) ?_); intro v7 w7 hown7 hg7 hnil7)
         | (go_at_call 210; ((with_reducible refine CMAP.out.mono ?_); rintro e w5 ⟨rfl, hb7⟩; have own5 := own_below own4 hb7; have hb8 := Tx.step hb6 hb7; have v0 := cell_later hb7 y0; have s7 := hb8.size)))
        have hgA : Below W.heap.size W w7 := ((Tx.step hb4 hb8).alloc (by omega) _).grown hg7 (by simp; omega) (fun i hi => (own5.lt i hi).1)
        go_roundw
        case rel => exact ⟨j + 1, hlt2, by go_num, by unfold Ix.OwnT; rw [HNT.out, ← List.append_assoc, HA.out, List.length_append, List.map_append]; rw [← HPP.out] at hown7; exact hown7, hgA⟩
        case measure => simp [intOf]; omega
       ·rw [if_neg (fun h9 => hc h9.1), List.append_nil] at hnt
        have HNT := Lib.hid hnt
        have hc97 : ((x.1.toNat : Int) == 97) = false := by
         rw [beq_eq_false_iff_ne]
         intro e
         exact hc (UInt8.toNat_inj.1 (by show x.1.toNat = 97; omega))
        clear hnt hP0 hc
        go_wp2_with (go_at_call 210; ((with_reducible refine CMAP.out.mono ?_); rintro e w5 ⟨rfl, hb7⟩; have own5 := own_below own4 hb7; have hb8 := Tx.step hb6 hb7; have v0 := cell_later hb7 y0; have s7 := hb8.size))
        go_roundw
        case rel => exact ⟨j + 1, hlt2, by go_num, by rw [HNT.out, HA.out]; exact own5, Tx.step hb4 hb8⟩
        case measure => simp [intOf]; omega
     ·obtain rfl : j = f.subs.length := by omega
      rw [List.take_length, Ix.numS_all] at hown4
      go_wp2
      go_roundw
      case rel => exact ⟨k + 1, hlt, by go_num, by rw [HPT.out]; exact hown4, hb4⟩
      case measure => simp [intOf]; omega
   ·have b0 : Rc.tagIs [48, 50, 48] f = false := by unfold Rc.tagIs; rw [← Lib.toList_data]; exact t0
    rcases Bool.eq_false_or_eq_true (f.tag.toList == [48, 50, 50]) with t1 | t1
    ·have b1 : Rc.tagIs [48, 50, 50] f = true := by unfold Rc.tagIs; rw [← Lib.toList_data]; exact t1
     have hti : Ix.numB f = true := by unfold Ix.numB; rw [b1]; simp
     clear b0 b1
     rw [if_pos hti] at hpt
     have HPT := Lib.hid hpt
     clear hpt hti
     have hscap := HSUB.out.cap
     go_wp2
     clear hW1 z0
     go_loopw [3, 27] (fun v i wr => ∃ (j : Nat), j ≤ f.subs.length ∧ i = .int .i64 j ∧ Ix.OwnT wr W.heap.size v (acc ++ Ix.numS (f.subs.take j)) ∧ Below W.heap.size W wr) (fun _ i _ => f.subs.length - (intOf i).toNat)
     case atStart => exact ⟨0, Nat.zero_le _, by go_num, by show Ix.OwnT _ _ _ (acc ++ []); rw [List.append_nil]; exact own_below hown hb1, Tx.step hb hb1⟩
     case round =>
      obtain ⟨j, hj, rfl, hown4, hb4⟩ := hrel
      have hb4s := hb4.size
      by_cases hlt2 : j < f.subs.length
      ·obtain ⟨x, hx⟩ : ∃ x, f.subs[j]? = some x := ⟨_, List.getElem?_eq_getElem hlt2⟩
       obtain ⟨sb, so, rfl, hsb, x0, x1⟩ := HSUB.out.get hx
       replace x0 := cell_later hb4 x0
       replace x1 := cell_later hb4 x1
       have hxg := HGD.out.2 x (List.mem_of_getElem? hx)
       have hnt := Ix.numS_take hx
       have hnl := Ix.numS_len (f.subs.take j)
       rw [List.length_take] at hnl
       have hpl9 := Ix.plainB_len _ x.2.data.toList (Nat.le_refl _)
       obtain ⟨A, hA⟩ : ∃ A, acc ++ Ix.numS (f.subs.take j) = A := ⟨_, rfl⟩
       have HK : Hid (A.length ≤ 1500000) := Lib.hid (by rw [← hA, List.length_append]; omega)
       have HA := Lib.hid hA
       rw [hA] at hown4
       obtain ⟨P, hPP⟩ : ∃ P : ByteArray, (⟨(Ix.plainB x.2.data.toList).toArray⟩ : ByteArray) = P := ⟨_, rfl⟩
       have HPP := Lib.hid hPP
       obtain ⟨W2, hW2⟩ : ∃ W2, wr.alloc (.cells #[.int .u8 x.1.toNat, .string x.2] 96) = W2 := ⟨_, rfl⟩
       have hb6 : Below wr.heap.size wr W2 := by rw [← hW2]; exact Tx.newb _ _
       have y0 : W2.cell? ⟨wr.heap.size, 0, none⟩ = some (.int .u8 x.1.toNat) := by rw [← hW2]; simp
       have y1 : W2.cell? ⟨wr.heap.size, 1, none⟩ = some (.string x.2) := by rw [← hW2]; simp
       have own4 := own_below hown4 hb6
       have CMAP : Hid (Calls Tryz.prog 210 #[.func (.func 211) #[] #[], .string x.2] W2 fun e w' => e = .returned (.string P) ∧ Below W2.heap.size W2 w') := Lib.hid (by
        rw [← hPP]
        exact ix_map_c x.2 W2 (hG.below (Tx.step hB (Tx.step hb4 hb6))) (by have := hxg.1; omega) hxg.2)
       clear hA hPP hx hxg hnl hown4 hpl9
       by_cases hP0 : Ix.plainB x.2.data.toList = []
       ·rw [if_neg (fun h9 => h9.2 hP0), List.append_nil] at hnt
        have HNT := Lib.hid hnt
        have hPe : (P.toList == []) = true := by rw [Lib.toList_data, ← HPP.out, hP0]; rfl
        clear hnt hP0
        cases hc97 : ((x.1.toNat : Int) == 97)
        all_goals
         go_wp2_with (go_at_call 210; ((with_reducible refine CMAP.out.mono ?_); rintro e w5 ⟨rfl, hb7⟩; have own5 := own_below own4 hb7; have hb8 := Tx.step hb6 hb7; have v0 := cell_later hb7 y0; have s7 := hb8.size))
         go_roundw
         case rel => exact ⟨j + 1, hlt2, by go_num, by rw [HNT.out, HA.out]; exact own5, Tx.step hb4 hb8⟩
         case measure => simp [intOf]; omega
       ·have hPe : (P.toList == []) = false := by rw [Lib.toList_data, ← HPP.out]; simpa using hP0
        by_cases hc : x.1 = 97
        ·rw [if_pos ⟨hc, hP0⟩] at hnt
         have HNT := Lib.hid hnt
         have hc97 : ((x.1.toNat : Int) == 97) = true := by rw [hc]; rfl
         have HC := Lib.hid hc
         clear hnt hP0 hc
         go_wp2_with (first
          | (at_builtin; go_must (refine wpList_append_sl rfl _ _ 26 rfl W.heap.size 9 i0 _ 1 16 Tryz.underlying26 HI.out hz0 hz1 hz2 rfl (by decide) _ A.length _ rfl (own5.alloc _) (some ⟨_, 0, none⟩) 1 1 [Value.string P] rfl rfl (fun h9 => by cases h9) (fun ad had => by cases had; exact Br.cells_new_at _ _ (by first | rfl | simp) _ _) (by simp [Value.oneCell']) (by unfold maxLen; have := HK.out; omega) (by have := HK.out; omega) (by simp; omega) ?_); intro v7 w7 hown7 hg7 hnil7)
          | (go_at_call 210; ((with_reducible refine CMAP.out.mono ?_); rintro e w5 ⟨rfl, hb7⟩; have own5 := own_below own4 hb7; have hb8 := Tx.step hb6 hb7; have v0 := cell_later hb7 y0; have s7 := hb8.size)))
         have hgA : Below W.heap.size W w7 := ((Tx.step hb4 hb8).alloc (by omega) _).grown hg7 (by simp; omega) (fun i hi => (own5.lt i hi).1)
         go_roundw
         case rel => exact ⟨j + 1, hlt2, by go_num, by unfold Ix.OwnT; rw [HNT.out, ← List.append_assoc, HA.out, List.length_append, List.map_append]; rw [← HPP.out] at hown7; exact hown7, hgA⟩
         case measure => simp [intOf]; omega
        ·rw [if_neg (fun h9 => hc h9.1), List.append_nil] at hnt
         have HNT := Lib.hid hnt
         have hc97 : ((x.1.toNat : Int) == 97) = false := by
          rw [beq_eq_false_iff_ne]
          intro e
          exact hc (UInt8.toNat_inj.1 (by show x.1.toNat = 97; omega))
         clear hnt hP0 hc
         go_wp2_with (go_at_call 210; ((with_reducible refine CMAP.out.mono ?_); rintro e w5 ⟨rfl, hb7⟩; have own5 := own_below own4 hb7; have hb8 := Tx.step hb6 hb7; have v0 := cell_later hb7 y0; have s7 := hb8.size))
         go_roundw
         case rel => exact ⟨j + 1, hlt2, by go_num, by rw [HNT.out, HA.out]; exact own5, Tx.step hb4 hb8⟩
         case measure => simp [intOf]; omega
      ·obtain rfl : j = f.subs.length := by omega
       rw [List.take_length, Ix.numS_all] at hown4
       go_wp2
       go_roundw
       case rel => exact ⟨k + 1, hlt, by go_num, by rw [HPT.out]; exact hown4, hb4⟩
       case measure => simp [intOf]; omega
    ·have b1 : Rc.tagIs [48, 50, 50] f = false := by unfold Rc.tagIs; rw [← Lib.toList_data]; exact t1
     have hti : ¬ Ix.numB f = true := by unfold Ix.numB; rw [b0, b1]; simp
     clear b0 b1
     rw [if_neg hti, List.append_nil] at hpt
     have HPT := Lib.hid hpt
     clear hpt hti
     go_wp2
     go_roundw
     case rel => exact ⟨k + 1, hlt, by go_num, by rw [HPT.out]; exact own_below hown hb1, Tx.step hb hb1⟩
     case measure => simp [intOf]; omega
  ·obtain rfl : k = fs.length := by omega
   rw [List.take_length] at hown
   go_wp2
   go_ret
   exact ⟨_, rfl, Ix.own_lower hown hbB, Tx.step hB hb⟩
end Go.Proofs.YtlakomilichhnaaGreatDoor
namespace Go.Proofs.YtlakomilichhnaaGreatDoor
open Go.RowKit
set_option maxRecDepth 100000
section
variable {P : Program} (w : World)
theorem step_append_sl {ops : Array Oper} {o : Oper} {a : Act} {K : Act → World → Prop} {Q : Exit → Act → World → Prop} {E : Prop} (hgd : o.guard = none) (s x : Operand) (t : TypeId)
  (ho : o.op = .call { callee := .builtin .append, args := #[s, x], argTypes := #[t, t] })
  (base : Nat) (e : TypeId) (i : TypeInfo) (z : Value) (size bytes : Nat) (ht : P.underlying t = some (.slice e)) (hi : P.info? e = some i) (hz : i.zero = some z)
  (hsize : i.size = size) (hby : i.bytes = bytes) (hzs : z.cells.size = size) (hsz : 0 < size)
  (v : Value) (n : Nat) (xs : List Value) (hs : a.eval s = v) (hown : w.ownsRow base e size v n xs)
  (ao : Option Addr) (m c : Nat) (news : List Value) (hx : a.eval x = .slice ao m c) (hl : news.length = m * size) (hno : ao = none → m = 0) (hnews : ∀ ad, ao = some ad → ∀ j u, news[j]? = some u → w.cell? (ad.add j) = some u) (h1 : ∀ u ∈ news, u.oneCell' = true)
  (h63 : n + m ≤ maxLen) (hbytes : (n + m) * bytes ≤ 140737488355328) (hbase : base ≤ w.heap.size)
  (h : ∀ v' w', w'.ownsRow base e size v' (n + m) (xs ++ news) → w.grownBy w' v.ownBlock → K (a.put o.dst v') w') :
  if Region.wanted o (yielded ops a.tmps) = true then Oper.wp P o a w K Q else E := by
 have hw : Region.wanted o (yielded ops a.tmps) = true := by simp [Region.wanted, hgd]
 rw [if_pos hw]
 cases ao with
 | none =>
  obtain rfl := hno rfl
  have hn : news = [] := List.eq_nil_of_length_eq_zero (by rw [hl]; omega)
  subst hn
  have hrun := run_append_none_any (P := P) (w := w) base t o.type e i size ht hi v n xs hown c
  unfold Oper.wp execOp
  simp only [ho, resolve, invoke, builtin, Sem.run_bind, Sem.run_pure, Result.andThen_ok, List.map_toArray, List.map_cons, List.map_nil, hs, hx, hrun]
  exact h v w (by simpa using hown) ⟨rfl, rfl, rfl, Nat.le_refl _, fun _ _ _ => rfl⟩
 | some ad =>
  obtain ⟨v', w', hr, h2, h3, _, _⟩ := run_append_own_at (P := P) w base t o.type e i z size bytes ht hi hz hsize hby hzs hsz v n xs hown ad m c news hl (hnews ad rfl) h1 h63 hbytes hbase
  unfold Oper.wp execOp
  simp only [ho, resolve, invoke, builtin, Sem.run_bind, Sem.run_pure, Result.andThen_ok, List.map_toArray, List.map_cons, List.map_nil, hs, hx, hr]
  exact h v' w' h2 h3
end
theorem SLA.new {w : World} {xs : List ByteArray} {cs : Array Value} {t : TypeId} {X : Nat} (hX : X = w.heap.size) (hc : cs.toList = xs.map Value.string) (hl : xs.length ≤ 1000) : SLA (w.alloc (.cells cs t)) (some ⟨X, 0, Option.none⟩) xs.length xs :=
 ⟨Nat.le_refl _, by unfold maxLen; omega, X, 0, fun _ => ⟨rfl, by rw [hX]; simp⟩, fun j x hx => by
  have := Br.cells_new_at w X hX cs t j (Value.string x) (by rw [hc, List.getElem?_map, hx]; rfl)
  rw [Cs.add_at] at this
  exact this⟩
namespace Ix
open Rc
theorem ba_tag (t : ByteArray) (f : Fl) : tagIs t.data.toList f = decide (f.tag = t) := by
 unfold tagIs
 by_cases h : f.tag = t
 ·rw [h]; simp
 ·rw [decide_eq_false h, beq_eq_false_iff_ne]
  intro e
  exact h (ByteArray.ext (Array.toList_inj.1 e))
theorem tag_one (t : ByteArray) (f : Fl) : tagIs t.data.toList f = Lib.containsS [t] f.tag := by
 rw [ba_tag, Bool.eq_iff_iff, Lib.containsS_iff]
 simp
theorem auth_four (f : Fl) : authB f = Lib.containsS [⟨#[49, 48, 48]⟩, ⟨#[49, 49, 48]⟩, ⟨#[55, 48, 48]⟩, ⟨#[55, 49, 48]⟩] f.tag := by
 rw [Bool.eq_iff_iff, Lib.containsS_iff]
 unfold authB
 have e1 : tagIs [49, 48, 48] f = decide (f.tag = ⟨#[49, 48, 48]⟩) := ba_tag ⟨#[49, 48, 48]⟩ f
 have e2 : tagIs [49, 49, 48] f = decide (f.tag = ⟨#[49, 49, 48]⟩) := ba_tag ⟨#[49, 49, 48]⟩ f
 have e3 : tagIs [55, 48, 48] f = decide (f.tag = ⟨#[55, 48, 48]⟩) := ba_tag ⟨#[55, 48, 48]⟩ f
 have e4 : tagIs [55, 49, 48] f = decide (f.tag = ⟨#[55, 49, 48]⟩) := ba_tag ⟨#[55, 49, 48]⟩ f
 rw [e1, e2, e3, e4]
 simp only [Bool.or_eq_true, decide_eq_true_eq, List.mem_cons, List.not_mem_nil, or_false]
 constructor
 ·rintro (((h | h) | h) | h)
  ·exact .inl h
  ·exact .inr (.inl h)
  ·exact .inr (.inr (.inl h))
  ·exact .inr (.inr (.inr h))
 ·rintro (h | h | h | h)
  ·exact .inl (.inl (.inl h))
  ·exact .inl (.inl (.inr h))
  ·exact .inl (.inr h)
  ·exact .inr h
theorem beg_pre (d : UInt8) (f : Fl) : begB d f = Lib.hasPrefix f.tag.data.toList [d] := by
 unfold begB Lib.hasPrefix
 cases f.tag.data.toList with
 | nil => simp
 | cons b r =>
  simp [List.isPrefixOf]
  exact BEq.comm
theorem own_cells {w : World} {B : Nat} {v : Value} {A ws : List By} (h : w.ownsRow B 9 1 v (A.length + ws.length) (A.map Tx.sv ++ ws.map Tx.sv)) : OwnT w B v (A ++ ws) := by
 unfold OwnT
 rw [List.length_append, List.map_append]
 exact h
theorem sla_own_cells {w : World} {a : Option Addr} {c : Nat} {l : List By} (h : SLA w a c (l.map fun x => (⟨x.toArray⟩ : ByteArray))) : ∀ ad, a = some ad → ∀ j u, (l.map Tx.sv)[j]? = some u → w.cell? (ad.add j) = some u := fun ad had j u hu => h.cells ad had j u (by rw [List.map_map]; exact hu)
theorem sv_one (l : List By) : ∀ u ∈ l.map Tx.sv, u.oneCell' = true := fun u hu => by
 obtain ⟨x, _, rfl⟩ := List.mem_map.1 hu
 rfl
theorem sla_none {w : World} {a : Option Addr} {c : Nat} {l : List By} (h : SLA w a c (l.map fun x => (⟨x.toArray⟩ : ByteArray))) : a = none → l.length = 0 := fun ha => by
 have := h.none ha
 rwa [List.length_map] at this
end Ix
set_option maxHeartbeats 3200000 in
theorem ix_Terms_3 (fs : List Rc.Fl) (a : Option Addr) (c : Nat) (id ver kind : Int) (lang : ByteArray) (w : World) (hG : G w) (h : Rc.FldA w a c fs) (hM : Ix.Mod fs) (hV : ∀ f ∈ fs, Rc.Gd f) :
  Calls Tryz.prog 62 #[.agg #[.int .i64 id, .int .i64 ver, .int .i64 kind, .string lang, .slice a fs.length c], .int .i64 3] w fun e w' => ∃ v, e = .returned v ∧ Ix.OwnT w' w.heap.size v (Ix.term fs 3) ∧ Below w.heap.size w w' := by
 obtain ⟨W, hW⟩ : ∃ W, w.alloc (.cells #[.int .i64 id, .int .i64 ver, .int .i64 kind, .string lang, .slice a fs.length c] 51) = W := ⟨_, rfl⟩
 have hB : Below w.heap.size w W := by rw [← hW]; exact Tx.newb _ _
 have c0 : W.cell? ⟨w.heap.size, 0, none⟩ = some (.int .i64 id) := by rw [← hW]; simp
 have c1 : W.cell? ⟨w.heap.size, 1, none⟩ = some (.int .i64 ver) := by rw [← hW]; simp
 have c2 : W.cell? ⟨w.heap.size, 2, none⟩ = some (.int .i64 kind) := by rw [← hW]; simp
 have c3 : W.cell? ⟨w.heap.size, 3, none⟩ = some (.string lang) := by rw [← hW]; simp
 have c4 : W.cell? ⟨w.heap.size, 4, none⟩ = some (.slice a fs.length c) := by rw [← hW]; simp
 have hbB := hB.size
 have hWlt : w.heap.size < W.heap.size := by rw [← hW]; simp
 have CP : Hid (Calls Tryz.prog 129 #[.agg #[.int .i64 id, .int .i64 ver, .int .i64 kind, .string lang, .slice a fs.length c], .func (.func 131) #[] #[], .string ⟨#[97, 120, 121, 122]⟩] W fun e w' => ∃ v, e = .returned v ∧ Ix.OwnT w' W.heap.size v (Ix.pick (Ix.begB 54) [97, 120, 121, 122] fs) ∧ Below W.heap.size W w') := Lib.hid (picks_p6_c fs a c id ver kind lang (fun t => Lib.hasPrefix t.data.toList [54]) (Ix.begB 54) (fun f => Ix.beg_pre 54 f) ⟨#[97, 120, 121, 122]⟩ (by decide) W (hG.below hB) (h.below hB) hM hV (fun w' tag _ => ix_pre6_c tag w'))
 clear hG h hM hV
 go_enter Tryz.func62, Tryz.ntmps62
 go_wp2_with (go_at_call 129; ((with_reducible refine CP.out.mono ?_); rintro e w1 ⟨v, rfl, hown, hb1⟩))
 go_ret
 exact ⟨_, rfl, Ix.own_lower hown hbB, Tx.step hB hb1⟩
set_option maxHeartbeats 3200000 in
theorem ix_Terms_4 (fs : List Rc.Fl) (a : Option Addr) (c : Nat) (id ver kind : Int) (lang : ByteArray) (w : World) (hG : G w) (h : Rc.FldA w a c fs) (hM : Ix.Mod fs) (hV : ∀ f ∈ fs, Rc.Gd f) :
  Calls Tryz.prog 62 #[.agg #[.int .i64 id, .int .i64 ver, .int .i64 kind, .string lang, .slice a fs.length c], .int .i64 4] w fun e w' => ∃ v, e = .returned v ∧ Ix.OwnT w' w.heap.size v (Ix.term fs 4) ∧ Below w.heap.size w w' := by
 obtain ⟨W, hW⟩ : ∃ W, w.alloc (.cells #[.int .i64 id, .int .i64 ver, .int .i64 kind, .string lang, .slice a fs.length c] 51) = W := ⟨_, rfl⟩
 have hB : Below w.heap.size w W := by rw [← hW]; exact Tx.newb _ _
 have c0 : W.cell? ⟨w.heap.size, 0, none⟩ = some (.int .i64 id) := by rw [← hW]; simp
 have c1 : W.cell? ⟨w.heap.size, 1, none⟩ = some (.int .i64 ver) := by rw [← hW]; simp
 have c2 : W.cell? ⟨w.heap.size, 2, none⟩ = some (.int .i64 kind) := by rw [← hW]; simp
 have c3 : W.cell? ⟨w.heap.size, 3, none⟩ = some (.string lang) := by rw [← hW]; simp
 have c4 : W.cell? ⟨w.heap.size, 4, none⟩ = some (.slice a fs.length c) := by rw [← hW]; simp
 have hbB := hB.size
 have hWlt : w.heap.size < W.heap.size := by rw [← hW]; simp
 have CP : Hid (Calls Tryz.prog 132 #[.agg #[.int .i64 id, .int .i64 ver, .int .i64 kind, .string lang, .slice a fs.length c]] W fun e w' => ∃ v, e = .returned v ∧ Ix.OwnT w' W.heap.size v (Ix.term fs 4) ∧ Below W.heap.size W w') := Lib.hid (ix_numbers_c fs a c id ver kind lang W (hG.below hB) (h.below hB) hM hV)
 clear hG h hM hV
 go_enter Tryz.func62, Tryz.ntmps62
 go_wp2_with (go_at_call 132; ((with_reducible refine CP.out.mono ?_); rintro e w1 ⟨v, rfl, hown, hb1⟩))
 go_ret
 exact ⟨_, rfl, Ix.own_lower hown hbB, Tx.step hB hb1⟩
set_option maxHeartbeats 3200000 in
theorem ix_Terms_2 (fs : List Rc.Fl) (a : Option Addr) (c : Nat) (id ver kind : Int) (lang : ByteArray) (w : World) (hG : G w) (h : Rc.FldA w a c fs) (hM : Ix.Mod fs) (hV : ∀ f ∈ fs, Rc.Gd f) :
  Calls Tryz.prog 62 #[.agg #[.int .i64 id, .int .i64 ver, .int .i64 kind, .string lang, .slice a fs.length c], .int .i64 2] w fun e w' => ∃ v, e = .returned v ∧ Ix.OwnT w' w.heap.size v (Ix.term fs 2) ∧ Below w.heap.size w w' := by
 obtain ⟨W, hW⟩ : ∃ W, w.alloc (.cells #[.int .i64 id, .int .i64 ver, .int .i64 kind, .string lang, .slice a fs.length c] 51) = W := ⟨_, rfl⟩
 have hB : Below w.heap.size w W := by rw [← hW]; exact Tx.newb _ _
 have c0 : W.cell? ⟨w.heap.size, 0, none⟩ = some (.int .i64 id) := by rw [← hW]; simp
 have c1 : W.cell? ⟨w.heap.size, 1, none⟩ = some (.int .i64 ver) := by rw [← hW]; simp
 have c2 : W.cell? ⟨w.heap.size, 2, none⟩ = some (.int .i64 kind) := by rw [← hW]; simp
 have c3 : W.cell? ⟨w.heap.size, 3, none⟩ = some (.string lang) := by rw [← hW]; simp
 have c4 : W.cell? ⟨w.heap.size, 4, none⟩ = some (.slice a fs.length c) := by rw [← hW]; simp
 have hbB := hB.size
 have hWlt : w.heap.size < W.heap.size := by rw [← hW]; simp
 go_enter Tryz.func62, Tryz.ntmps62
 go_wp2
 clear hW
 go_region_held3 (fun w' => Below W.heap.size W w' ∧ w'.cell? ⟨w.heap.size, 0, none⟩ = some (.int .i64 id) ∧ w'.cell? ⟨w.heap.size, 1, none⟩ = some (.int .i64 ver) ∧ w'.cell? ⟨w.heap.size, 2, none⟩ = some (.int .i64 kind) ∧ w'.cell? ⟨w.heap.size, 3, none⟩ = some (.string lang) ∧ w'.cell? ⟨w.heap.size, 4, none⟩ = some (.slice a fs.length c))
  (first | exact ⟨(Below.refl _ _).drew, c0, c1, c2, c3, c4⟩ | (go_split_ands; exact ⟨Tx.step (by assumption) hbx, cell_later hbx (by assumption), cell_later hbx (by assumption), cell_later hbx (by assumption), cell_later hbx (by assumption), cell_later hbx (by assumption)⟩) | (go_split_ands; exact ⟨Tx.step (by assumption) (Tx.newb _ _), cell_later (Tx.newb _ _) (by assumption), cell_later (Tx.newb _ _) (by assumption), cell_later (Tx.newb _ _) (by assumption), cell_later (Tx.newb _ _) (by assumption), cell_later (Tx.newb _ _) (by assumption)⟩))
  (first
   | (go_split_ands; go_at_call 129; refine (picks_tg_c fs a c id ver kind lang bx (fun t => Lib.containsS [⟨#[49, 48, 48]⟩, ⟨#[49, 49, 48]⟩, ⟨#[55, 48, 48]⟩, ⟨#[55, 49, 48]⟩] t) (Ix.authB) (fun f => Ix.auth_four f) ⟨#[97]⟩ (by decide) _ (hG.below (Tx.step hB (by assumption))) (h.below (Tx.step hB (by assumption))) hM hV (fun w' tag hb' => ix_tag1_c tag bx [⟨#[49, 48, 48]⟩, ⟨#[49, 49, 48]⟩, ⟨#[55, 48, 48]⟩, ⟨#[55, 49, 48]⟩] w' (by first | exact hcap.below hb' | exact (hcap.below (Tx.newb _ _)).below hb' | exact (hcap.below ((Tx.newb _ _).drew)).below hb') (by simp))).mono ?_; rintro e ww ⟨v, rfl, hown, hb3⟩; have hbx := hb3)
   | (go_split_ands; go_at_call 130; refine (ix_tags_c [⟨#[49, 48, 48]⟩, ⟨#[49, 49, 48]⟩, ⟨#[55, 48, 48]⟩, ⟨#[55, 49, 48]⟩] _ _ _ ?_).mono ?_; (exact (SLA.new (xs := [⟨#[49, 48, 48]⟩, ⟨#[49, 49, 48]⟩, ⟨#[55, 48, 48]⟩, ⟨#[55, 49, 48]⟩]) (by first | rfl | simp) (by first | rfl | simp) (by decide)).below (Below.refl _ _).drew); rintro e ww ⟨bx, rfl, hcap, hb2⟩; have hbx := hb2))
 all_goals
  go_split_ands
  go_wp2
  go_ret
  exact ⟨_, rfl, Ix.own_lower hown (Nat.le_trans hbB (Below.size (B := W.heap.size) (by assumption))), Tx.step hB (by assumption)⟩
set_option maxHeartbeats 3200000 in
theorem ix_Terms_1 (fs : List Rc.Fl) (a : Option Addr) (c : Nat) (id ver kind : Int) (lang : ByteArray) (w : World) (hG : G w) (h : Rc.FldA w a c fs) (hM : Ix.Mod fs) (hV : ∀ f ∈ fs, Rc.Gd f) :
  Calls Tryz.prog 62 #[.agg #[.int .i64 id, .int .i64 ver, .int .i64 kind, .string lang, .slice a fs.length c], .int .i64 1] w fun e w' => ∃ v, e = .returned v ∧ Ix.OwnT w' w.heap.size v (Ix.term fs 1) ∧ Below w.heap.size w w' := by
 obtain ⟨W, hW⟩ : ∃ W, w.alloc (.cells #[.int .i64 id, .int .i64 ver, .int .i64 kind, .string lang, .slice a fs.length c] 51) = W := ⟨_, rfl⟩
 have hB : Below w.heap.size w W := by rw [← hW]; exact Tx.newb _ _
 have c0 : W.cell? ⟨w.heap.size, 0, none⟩ = some (.int .i64 id) := by rw [← hW]; simp
 have c1 : W.cell? ⟨w.heap.size, 1, none⟩ = some (.int .i64 ver) := by rw [← hW]; simp
 have c2 : W.cell? ⟨w.heap.size, 2, none⟩ = some (.int .i64 kind) := by rw [← hW]; simp
 have c3 : W.cell? ⟨w.heap.size, 3, none⟩ = some (.string lang) := by rw [← hW]; simp
 have c4 : W.cell? ⟨w.heap.size, 4, none⟩ = some (.slice a fs.length c) := by rw [← hW]; simp
 have hbB := hB.size
 have hWlt : w.heap.size < W.heap.size := by rw [← hW]; simp
 obtain ⟨i0, hi0, hz0, hz1, hz2⟩ := info_parts info_str
 have HI := Lib.hid hi0; clear hi0
 have L1 := Ix.pick_len (p := Rc.tagIs [50, 52, 53]) (codes := [97, 98, 110, 112]) hM
 have L2 := Ix.pick_len (p := Rc.tagIs [50, 52, 54]) (codes := [97, 98]) hM
 have hA0 : ((Ix.pick (Rc.tagIs [50, 52, 54]) [97, 98] fs).map Tx.sv).length = (Ix.pick (Rc.tagIs [50, 52, 54]) [97, 98] fs).length * 1 := by simp
 have hA1 : (Ix.pick (Rc.tagIs [50, 52, 53]) [97, 98, 110, 112] fs).length + (Ix.pick (Rc.tagIs [50, 52, 54]) [97, 98] fs).length ≤ maxLen := by unfold maxLen; omega
 have hA2 : ((Ix.pick (Rc.tagIs [50, 52, 53]) [97, 98, 110, 112] fs).length + (Ix.pick (Rc.tagIs [50, 52, 54]) [97, 98] fs).length) * 16 ≤ 140737488355328 := by omega
 go_enter Tryz.func62, Tryz.ntmps62
 go_wp2
 clear hW
 go_region_held3 (fun w' => Below W.heap.size W w' ∧ w'.cell? ⟨w.heap.size, 0, none⟩ = some (.int .i64 id) ∧ w'.cell? ⟨w.heap.size, 1, none⟩ = some (.int .i64 ver) ∧ w'.cell? ⟨w.heap.size, 2, none⟩ = some (.int .i64 kind) ∧ w'.cell? ⟨w.heap.size, 3, none⟩ = some (.string lang) ∧ w'.cell? ⟨w.heap.size, 4, none⟩ = some (.slice a fs.length c))
  (first | exact ⟨(Below.refl _ _).drew, c0, c1, c2, c3, c4⟩ | (go_split_ands; exact ⟨Tx.step (by assumption) hbx, cell_later hbx (by assumption), cell_later hbx (by assumption), cell_later hbx (by assumption), cell_later hbx (by assumption), cell_later hbx (by assumption)⟩) | (go_split_ands; exact ⟨Tx.step (by assumption) (Tx.newb _ _), cell_later (Tx.newb _ _) (by assumption), cell_later (Tx.newb _ _) (by assumption), cell_later (Tx.newb _ _) (by assumption), cell_later (Tx.newb _ _) (by assumption), cell_later (Tx.newb _ _) (by assumption)⟩) | (go_split_ands; exact ⟨Below.grown (by assumption) hg9 (Below.size (B := W.heap.size) (by assumption)) (fun j hj => (own9.lt j hj).1), (hg9.cell_far ⟨w.heap.size, 0, none⟩ (Nat.lt_of_lt_of_le hWlt hw9) hfar).trans (by assumption), (hg9.cell_far ⟨w.heap.size, 1, none⟩ (Nat.lt_of_lt_of_le hWlt hw9) hfar).trans (by assumption), (hg9.cell_far ⟨w.heap.size, 2, none⟩ (Nat.lt_of_lt_of_le hWlt hw9) hfar).trans (by assumption), (hg9.cell_far ⟨w.heap.size, 3, none⟩ (Nat.lt_of_lt_of_le hWlt hw9) hfar).trans (by assumption), (hg9.cell_far ⟨w.heap.size, 4, none⟩ (Nat.lt_of_lt_of_le hWlt hw9) hfar).trans (by assumption)⟩))
  (first
   | (go_split_ands; have hA3 := Below.size (B := W.heap.size) (w := W) (w' := ww) (by assumption); refine step_append_sl ww (by rfl) _ _ 26 (by rfl) W.heap.size 9 i0 _ 1 16 Tryz.underlying26 HI.out hz0 hz1 hz2 (by rfl) (by decide) _ (Ix.pick (Rc.tagIs [50, 52, 53]) [97, 98, 110, 112] fs).length _ (by rfl) (own9) sa (Ix.pick (Rc.tagIs [50, 52, 54]) [97, 98] fs).length sc ((Ix.pick (Rc.tagIs [50, 52, 54]) [97, 98] fs).map Tx.sv) (by rfl) hA0 (Ix.sla_none HSL.out) (Ix.sla_own_cells HSL.out) (Ix.sv_one (Ix.pick (Rc.tagIs [50, 52, 54]) [97, 98] fs)) hA1 hA2 hA3 ?_; intro v9 w9 hown9 hg9; have hfar : some w.heap.size ≠ _ := (fun e => by have := (own9.lt _ e.symm).1; omega); have hw9 := hA3)
   | (go_split_ands; go_at_call 129; refine (picks_tg_c fs a c id ver kind lang bx2 (fun t => Lib.containsS [⟨#[50, 52, 54]⟩] t) (Rc.tagIs [50, 52, 54]) (fun f => Ix.tag_one ⟨#[50, 52, 54]⟩ f) ⟨#[97, 98]⟩ (by decide) _ (hG.below (Tx.step hB (by assumption))) (h.below (Tx.step hB (by assumption))) hM hV (fun w' tag hb' => ix_tag1_c tag bx2 [⟨#[50, 52, 54]⟩] w' (by first | exact hcap2.below hb' | exact (hcap2.below (Tx.newb _ _)).below hb' | exact (hcap2.below ((Tx.newb _ _).drew)).below hb') (by simp))).mono ?_; rintro e ww ⟨v2, rfl, hown2, hb5⟩; have hbx := hb5; obtain ⟨sa, sc, rfl, hsl⟩ := Ix.own_sla hown2; have HSL := Lib.hid hsl; clear hsl hown2; have own9 := own_below (own_below hown1 hb34) hb5)
   | (go_split_ands; go_at_call 130; refine (ix_tags_c [⟨#[50, 52, 54]⟩] _ _ _ ?_).mono ?_; (first | exact (SLA.new (xs := [⟨#[50, 52, 54]⟩]) rfl rfl (by decide)) | exact (SLA.below (SLA.new (xs := [⟨#[50, 52, 54]⟩]) rfl rfl (by decide)) (Below.refl _ _).drew) | exact (SLA.new (xs := [⟨#[50, 52, 54]⟩]) (World.size_alloc _ _).symm rfl (by decide)) | exact (SLA.below (SLA.new (xs := [⟨#[50, 52, 54]⟩]) (World.size_alloc _ _).symm rfl (by decide)) (Below.refl _ _).drew) | exact (SLA.below (SLA.new (xs := [⟨#[50, 52, 54]⟩]) rfl rfl (by decide)) hb3) | exact (SLA.below (SLA.below (SLA.new (xs := [⟨#[50, 52, 54]⟩]) rfl rfl (by decide)) (Below.refl _ _).drew) hb3) | exact (SLA.below (SLA.new (xs := [⟨#[50, 52, 54]⟩]) (World.size_alloc _ _).symm rfl (by decide)) hb3) | exact (SLA.below (SLA.below (SLA.new (xs := [⟨#[50, 52, 54]⟩]) (World.size_alloc _ _).symm rfl (by decide)) (Below.refl _ _).drew) hb3) | exact (SLA.below (SLA.below (SLA.new (xs := [⟨#[50, 52, 54]⟩]) rfl rfl (by decide)) hb2) hb3) | exact (SLA.below (SLA.below (SLA.below (SLA.new (xs := [⟨#[50, 52, 54]⟩]) rfl rfl (by decide)) (Below.refl _ _).drew) hb2) hb3) | exact (SLA.below (SLA.below (SLA.new (xs := [⟨#[50, 52, 54]⟩]) (World.size_alloc _ _).symm rfl (by decide)) hb2) hb3) | exact (SLA.below (SLA.below (SLA.below (SLA.new (xs := [⟨#[50, 52, 54]⟩]) (World.size_alloc _ _).symm rfl (by decide)) (Below.refl _ _).drew) hb2) hb3) | exact (SLA.below (SLA.below (SLA.below (SLA.new (xs := [⟨#[50, 52, 54]⟩]) rfl rfl (by decide)) (Tx.newb _ _)) hb2) hb3) | exact (SLA.below (SLA.below (SLA.below (SLA.below (SLA.new (xs := [⟨#[50, 52, 54]⟩]) rfl rfl (by decide)) (Below.refl _ _).drew) (Tx.newb _ _)) hb2) hb3) | exact (SLA.below (SLA.below (SLA.below (SLA.new (xs := [⟨#[50, 52, 54]⟩]) (World.size_alloc _ _).symm rfl (by decide)) (Tx.newb _ _)) hb2) hb3) | exact (SLA.below (SLA.below (SLA.below (SLA.below (SLA.new (xs := [⟨#[50, 52, 54]⟩]) (World.size_alloc _ _).symm rfl (by decide)) (Below.refl _ _).drew) (Tx.newb _ _)) hb2) hb3) | exact (SLA.below (SLA.below (SLA.below (SLA.below (SLA.new (xs := [⟨#[50, 52, 54]⟩]) rfl rfl (by decide)) (Tx.newb _ _)) (Below.refl _ _).drew) hb2) hb3) | exact (SLA.below (SLA.below (SLA.below (SLA.below (SLA.below (SLA.new (xs := [⟨#[50, 52, 54]⟩]) rfl rfl (by decide)) (Below.refl _ _).drew) (Tx.newb _ _)) (Below.refl _ _).drew) hb2) hb3) | exact (SLA.below (SLA.below (SLA.below (SLA.below (SLA.new (xs := [⟨#[50, 52, 54]⟩]) (World.size_alloc _ _).symm rfl (by decide)) (Tx.newb _ _)) (Below.refl _ _).drew) hb2) hb3) | exact (SLA.below (SLA.below (SLA.below (SLA.below (SLA.below (SLA.new (xs := [⟨#[50, 52, 54]⟩]) (World.size_alloc _ _).symm rfl (by decide)) (Below.refl _ _).drew) (Tx.newb _ _)) (Below.refl _ _).drew) hb2) hb3)); rintro e ww ⟨bx2, rfl, hcap2, hb4⟩; have hbx := hb4; have hb34 : Below wp.heap.size wp ww := by first | exact hb4 | exact Tx.step (Tx.newb _ _) hb4 | exact Tx.step ((Tx.newb _ _).drew) hb4)
   | (go_split_ands; go_at_call 129; refine (picks_tg_c fs a c id ver kind lang bx (fun t => Lib.containsS [⟨#[50, 52, 53]⟩] t) (Rc.tagIs [50, 52, 53]) (fun f => Ix.tag_one ⟨#[50, 52, 53]⟩ f) ⟨#[97, 98, 110, 112]⟩ (by decide) _ (hG.below (Tx.step hB (by assumption))) (h.below (Tx.step hB (by assumption))) hM hV (fun w' tag hb' => ix_tag1_c tag bx [⟨#[50, 52, 53]⟩] w' (by first | exact hcap.below hb' | exact (hcap.below (Tx.newb _ _)).below hb' | exact (hcap.below ((Tx.newb _ _).drew)).below hb') (by simp))).mono ?_; rintro e ww ⟨v1, rfl, hown1, hb3⟩; have hbx := hb3; replace hown1 := Ix.own_lower hown1 (Below.size (B := W.heap.size) (by assumption)); obtain ⟨wp, hwp⟩ : ∃ wp, wp = ww := ⟨_, rfl⟩; subst hwp)
   | (go_split_ands; go_at_call 130; refine (ix_tags_c [⟨#[50, 52, 53]⟩] _ _ _ ?_).mono ?_; (first | exact (SLA.new (xs := [⟨#[50, 52, 53]⟩]) rfl rfl (by decide)) | exact (SLA.below (SLA.new (xs := [⟨#[50, 52, 53]⟩]) rfl rfl (by decide)) (Below.refl _ _).drew) | exact (SLA.new (xs := [⟨#[50, 52, 53]⟩]) (World.size_alloc _ _).symm rfl (by decide)) | exact (SLA.below (SLA.new (xs := [⟨#[50, 52, 53]⟩]) (World.size_alloc _ _).symm rfl (by decide)) (Below.refl _ _).drew) | exact (SLA.below (SLA.new (xs := [⟨#[50, 52, 53]⟩]) rfl rfl (by decide)) (Tx.newb _ _)) | exact (SLA.below (SLA.below (SLA.new (xs := [⟨#[50, 52, 53]⟩]) rfl rfl (by decide)) (Below.refl _ _).drew) (Tx.newb _ _)) | exact (SLA.below (SLA.new (xs := [⟨#[50, 52, 53]⟩]) (World.size_alloc _ _).symm rfl (by decide)) (Tx.newb _ _)) | exact (SLA.below (SLA.below (SLA.new (xs := [⟨#[50, 52, 53]⟩]) (World.size_alloc _ _).symm rfl (by decide)) (Below.refl _ _).drew) (Tx.newb _ _)) | exact (SLA.below (SLA.below (SLA.new (xs := [⟨#[50, 52, 53]⟩]) rfl rfl (by decide)) (Tx.newb _ _)) (Below.refl _ _).drew) | exact (SLA.below (SLA.below (SLA.below (SLA.new (xs := [⟨#[50, 52, 53]⟩]) rfl rfl (by decide)) (Below.refl _ _).drew) (Tx.newb _ _)) (Below.refl _ _).drew) | exact (SLA.below (SLA.below (SLA.new (xs := [⟨#[50, 52, 53]⟩]) (World.size_alloc _ _).symm rfl (by decide)) (Tx.newb _ _)) (Below.refl _ _).drew) | exact (SLA.below (SLA.below (SLA.below (SLA.new (xs := [⟨#[50, 52, 53]⟩]) (World.size_alloc _ _).symm rfl (by decide)) (Below.refl _ _).drew) (Tx.newb _ _)) (Below.refl _ _).drew)); rintro e ww ⟨bx, rfl, hcap, hb2⟩; have hbx := hb2))
 all_goals
  go_split_ands
  go_wp2
  go_ret
  exact ⟨_, rfl, Ix.own_lower (Ix.own_cells hown9) hbB, Tx.step hB (by assumption)⟩
theorem ix_Terms_14 (fs : List Rc.Fl) (a : Option Addr) (c : Nat) (id ver kind : Int) (lang : ByteArray) (k : Nat) (h1 : 1 ≤ k) (h4 : k ≤ 4) (w : World) (hG : G w) (h : Rc.FldA w a c fs) (hM : Ix.Mod fs) (hV : ∀ f ∈ fs, Rc.Gd f) :
  Calls Tryz.prog 62 #[.agg #[.int .i64 id, .int .i64 ver, .int .i64 kind, .string lang, .slice a fs.length c], .int .i64 k] w fun e w' => ∃ v, e = .returned v ∧ Ix.OwnT w' w.heap.size v (Ix.term fs k) ∧ Below w.heap.size w w' := by
 rcases (by omega : k = 1 ∨ k = 2 ∨ k = 3 ∨ k = 4) with rfl | rfl | rfl | rfl
 ·exact ix_Terms_1 fs a c id ver kind lang w hG h hM hV
 ·exact ix_Terms_2 fs a c id ver kind lang w hG h hM hV
 ·exact ix_Terms_3 fs a c id ver kind lang w hG h hM hV
 ·exact ix_Terms_4 fs a c id ver kind lang w hG h hM hV
set_option maxHeartbeats 3200000 in
theorem ix_Terms_0 (fs : List Rc.Fl) (a : Option Addr) (c : Nat) (id ver kind : Int) (lang : ByteArray) (w : World) (hG : G w) (h : Rc.FldA w a c fs) (hM : Ix.Mod fs) (hV : ∀ f ∈ fs, Rc.Gd f) :
  Calls Tryz.prog 62 #[.agg #[.int .i64 id, .int .i64 ver, .int .i64 kind, .string lang, .slice a fs.length c], .int .i64 0] w fun e w' => ∃ v, e = .returned v ∧ Ix.OwnT w' w.heap.size v (Ix.terms fs 0) ∧ Below w.heap.size w w' := by
 obtain ⟨W, hW⟩ : ∃ W, w.alloc (.cells #[.int .i64 id, .int .i64 ver, .int .i64 kind, .string lang, .slice a fs.length c] 51) = W := ⟨_, rfl⟩
 have hB : Below w.heap.size w W := by rw [← hW]; exact Tx.newb _ _
 have c0 : W.cell? ⟨w.heap.size, 0, none⟩ = some (.int .i64 id) := by rw [← hW]; simp
 have c1 : W.cell? ⟨w.heap.size, 1, none⟩ = some (.int .i64 ver) := by rw [← hW]; simp
 have c2 : W.cell? ⟨w.heap.size, 2, none⟩ = some (.int .i64 kind) := by rw [← hW]; simp
 have c3 : W.cell? ⟨w.heap.size, 3, none⟩ = some (.string lang) := by rw [← hW]; simp
 have c4 : W.cell? ⟨w.heap.size, 4, none⟩ = some (.slice a fs.length c) := by rw [← hW]; simp
 have hbB := hB.size
 have hWlt : w.heap.size < W.heap.size := by rw [← hW]; simp
 obtain ⟨i0, hi0, hz0, hz1, hz2⟩ := info_parts info_str
 have HI := Lib.hid hi0; clear hi0
 have HS := Lib.hid (h.below hB)
 have CT : Hid (∀ (k : Nat) w', 1 ≤ k → k ≤ 4 → Below W.heap.size W w' → Calls Tryz.prog 62 #[.agg #[.int .i64 id, .int .i64 ver, .int .i64 kind, .string lang, .slice a fs.length c], .int .i64 k] w' fun e w'' => ∃ v, e = .returned v ∧ Ix.OwnT w'' w'.heap.size v (Ix.term fs k) ∧ Below w'.heap.size w' w'') := Lib.hid (fun k w' h1 h4 hb => ix_Terms_14 fs a c id ver kind lang k h1 h4 w' (hG.below (Tx.step hB hb)) (HS.out.below hb) hM hV)
 have CB : Hid (∀ w', Below W.heap.size W w' → Calls Tryz.prog 129 #[.agg #[.int .i64 id, .int .i64 ver, .int .i64 kind, .string lang, .slice a fs.length c], .func (.func 133) #[] #[], .string ⟨#[97]⟩] w' fun e w'' => ∃ v, e = .returned v ∧ Ix.OwnT w'' w'.heap.size v (Ix.pick (Ix.begB 53) [97] fs) ∧ Below w'.heap.size w' w'') := Lib.hid (fun w' hb => picks_p5_c fs a c id ver kind lang (fun t => Lib.hasPrefix t.data.toList [53]) (Ix.begB 53) (fun f => Ix.beg_pre 53 f) ⟨#[97]⟩ (by decide) w' (hG.below (Tx.step hB hb)) (HS.out.below hb) hM hV (fun w' tag _ => ix_pre5_c tag w'))
 have HM := Lib.hid hM
 clear hG h hM hV
 go_enter Tryz.func62, Tryz.ntmps62
 go_wp2
 clear hW
 go_loopw [5, 6] (fun v i wr => ∃ (k : Nat), k ≤ 4 ∧ i = .int .i64 (k + 1) ∧ Ix.OwnT wr W.heap.size v (Ix.termsTo fs k) ∧ Below W.heap.size W wr) (fun _ i _ => 5 - (intOf i).toNat)
 case atStart => exact ⟨0, Nat.zero_le _, by go_num, World.ownsRow_nil _ _ _ _, Below.refl _ _⟩
 case round =>
  obtain ⟨k, hk, rfl, hown, hb⟩ := hrel
  have hbs := hb.size
  replace c0 := cell_later hb c0
  replace c1 := cell_later hb c1
  replace c2 := cell_later hb c2
  replace c3 := cell_later hb c3
  replace c4 := cell_later hb c4
  have hl := Ix.termsTo_len HM.out k
  by_cases hlt : k < 4
  ·have hl2 := Ix.term_len HM.out (k + 1)
   have HT := Lib.hid (Ix.termsTo_succ fs k)
   have hk1 : ((k : Int) + 1) ≤ 4 := by omega
   have hcast : ((k + 1 : Nat) : Int) = (k : Int) + 1 := by omega
   have CK : Hid (∀ w', Below W.heap.size W w' → Calls Tryz.prog 62 #[.agg #[.int .i64 id, .int .i64 ver, .int .i64 kind, .string lang, .slice a fs.length c], .int .i64 ((k : Int) + 1)] w' fun e w'' => ∃ v, e = .returned v ∧ Ix.OwnT w'' w'.heap.size v (Ix.term fs (k + 1)) ∧ Below w'.heap.size w' w'') := Lib.hid (fun w' hb => by
    have h9 := CT.out (k + 1) w' (by omega) (by omega) hb
    rw [hcast] at h9
    exact h9)
   clear hcast
   go_wp2_with (first
    | (at_builtin; go_must (refine wpList_append_sl rfl _ _ 26 rfl W.heap.size 9 i0 _ 1 16 Tryz.underlying26 HI.out hz0 hz1 hz2 rfl (by decide) _ (Ix.termsTo fs k).length _ rfl own2 va (Ix.term fs (k + 1)).length vc ((Ix.term fs (k + 1)).map Tx.sv) rfl (by simp) (Ix.sla_none HSV.out) (Ix.sla_own_cells HSV.out) (Ix.sv_one _) (by unfold maxLen; omega) (by omega) (by omega) ?_); intro v7 w7 hown7 hg7 hnil7)
    | (go_at_call 62; ((with_reducible refine (CK.out _ hb).mono ?_); rintro e w2 ⟨v2, rfl, hown2, hb2⟩; obtain ⟨va, vc, rfl, hsv⟩ := Ix.own_sla hown2; have HSV := Lib.hid hsv; clear hsv hown2; have s2 := hb2.size; have own2 := own_below hown hb2)))
   have hb7 : Below W.heap.size W w7 := (Tx.step hb hb2).grown hg7 (by omega) (fun i hi => (own2.lt i hi).1)
   go_roundw
   case rel => exact ⟨k + 1, by omega, by go_num, by rw [HT.out]; exact Ix.own_cells hown7, hb7⟩
   case measure => simp [intOf]; omega
  ·obtain rfl : k = 4 := by omega
   have hl2 := Ix.pick_len (p := Ix.begB 53) (codes := [97]) HM.out
   have HT := Lib.hid (Ix.terms_zero fs)
   clear hlt hk
   go_wp2_with (first
    | (at_builtin; go_must (refine wpList_append_sl rfl _ _ 26 rfl W.heap.size 9 i0 _ 1 16 Tryz.underlying26 HI.out hz0 hz1 hz2 rfl (by decide) _ (Ix.termsTo fs 4).length _ rfl own2 va (Ix.pick (Ix.begB 53) [97] fs).length vc ((Ix.pick (Ix.begB 53) [97] fs).map Tx.sv) rfl (by simp) (Ix.sla_none HSV.out) (Ix.sla_own_cells HSV.out) (Ix.sv_one _) (by unfold maxLen; omega) (by omega) (by omega) ?_); intro v7 w7 hown7 hg7 hnil7)
    | (go_at_call 129; ((with_reducible refine (CB.out _ hb).mono ?_); rintro e w2 ⟨v2, rfl, hown2, hb2⟩; obtain ⟨va, vc, rfl, hsv⟩ := Ix.own_sla hown2; have HSV := Lib.hid hsv; clear hsv hown2; have s2 := hb2.size; have own2 := own_below hown hb2)))
   have hb7 : Below W.heap.size W w7 := (Tx.step hb hb2).grown hg7 (by omega) (fun i hi => (own2.lt i hi).1)
   go_ret
   exact ⟨_, rfl, by rw [HT.out]; exact Ix.own_lower (Ix.own_cells hown7) hbB, Tx.step hB hb7⟩
set_option maxHeartbeats 1600000 in
theorem ix_Terms_x (fs : List Rc.Fl) (a : Option Addr) (c : Nat) (id ver kind : Int) (lang : ByteArray) (x : Int) (hx : x < 0 ∨ 4 < x) (w : World) :
  Calls Tryz.prog 62 #[.agg #[.int .i64 id, .int .i64 ver, .int .i64 kind, .string lang, .slice a fs.length c], .int .i64 x] w fun e w' => ∃ v, e = .returned v ∧ Ix.OwnT w' w.heap.size v [] ∧ Below w.heap.size w w' := by
 obtain ⟨W, hW⟩ : ∃ W, w.alloc (.cells #[.int .i64 id, .int .i64 ver, .int .i64 kind, .string lang, .slice a fs.length c] 51) = W := ⟨_, rfl⟩
 have hB : Below w.heap.size w W := by rw [← hW]; exact Tx.newb _ _
 have c0 : W.cell? ⟨w.heap.size, 0, none⟩ = some (.int .i64 id) := by rw [← hW]; simp
 have c1 : W.cell? ⟨w.heap.size, 1, none⟩ = some (.int .i64 ver) := by rw [← hW]; simp
 have c2 : W.cell? ⟨w.heap.size, 2, none⟩ = some (.int .i64 kind) := by rw [← hW]; simp
 have c3 : W.cell? ⟨w.heap.size, 3, none⟩ = some (.string lang) := by rw [← hW]; simp
 have c4 : W.cell? ⟨w.heap.size, 4, none⟩ = some (.slice a fs.length c) := by rw [← hW]; simp
 have hbB := hB.size
 have hWlt : w.heap.size < W.heap.size := by rw [← hW]; simp
 have t0 : (x == 0) = false := by simp; omega
 have t1 : (x == 1) = false := by simp; omega
 have t2 : (x == 2) = false := by simp; omega
 have t3 : (x == 3) = false := by simp; omega
 have t4 : (x == 4) = false := by simp; omega
 clear hx
 go_enter Tryz.func62, Tryz.ntmps62
 go_wp2
 go_ret
 exact ⟨_, rfl, World.ownsRow_nil _ _ _ _, hB⟩
theorem ix_Terms_c (fs : List Rc.Fl) (a : Option Addr) (c : Nat) (id ver kind : Int) (lang : ByteArray) (x : Int) (w : World) (hG : G w) (h : Rc.FldA w a c fs) (hM : Ix.Mod fs) (hV : ∀ f ∈ fs, Rc.Gd f) :
  Calls Tryz.prog 62 #[.agg #[.int .i64 id, .int .i64 ver, .int .i64 kind, .string lang, .slice a fs.length c], .int .i64 x] w fun e w' => ∃ v, e = .returned v ∧ Ix.OwnT w' w.heap.size v (Ix.terms fs x) ∧ Below w.heap.size w w' := by
 by_cases h0 : x = 0
 ·subst h0
  exact ix_Terms_0 fs a c id ver kind lang w hG h hM hV
 ·unfold Ix.terms
  rw [if_neg h0]
  by_cases h4 : 1 ≤ x ∧ x ≤ 4
  ·rw [if_pos h4]
   obtain ⟨k, rfl⟩ : ∃ k : Nat, x = k := ⟨x.toNat, by omega⟩
   exact ix_Terms_14 fs a c id ver kind lang k (by omega) (by omega) w hG h hM hV
  ·rw [if_neg h4]
   exact ix_Terms_x fs a c id ver kind lang x (by omega) w
end Go.Proofs.YtlakomilichhnaaGreatDoor
namespace Go.Proofs.YtlakomilichhnaaGreatDoor
open Go.RowKit
open Go.Sort (grow)
set_option maxRecDepth 100000
namespace Ix
def cmpB (x y : By) : Int := if x < y then -1 else if y < x then 1 else 0
def orI (a b c : Int) : Int := if a ≠ 0 then a else if b ≠ 0 then b else c
def cmpP (p q : Post) : Int := orI (Lib.compareInt p.fld q.fld) (cmpB p.word q.word) (Lib.compareInt p.id q.id)
theorem cmpP_lt (p q : Post) : decide (cmpP p q < 0) = ltK p q := by
 rw [Bool.eq_iff_iff, decide_eq_true_eq, ltK_iff]
 unfold cmpP orI Lib.compareInt cmpB
 by_cases h1 : p.fld < q.fld
 ·simp [h1]
 ·by_cases h2 : p.fld > q.fld
  ·have h3 : ¬ p.fld = q.fld := by omega
   simp [h1, h2, h3]
  ·have h3 : p.fld = q.fld := by omega
   by_cases h4 : p.word < q.word
   ·simp [h3, h4]
   ·by_cases h5 : q.word < p.word
    ·have h6 : ¬ p.word = q.word := fun e => by rw [e] at h5; exact List.lt_irrefl _ h5
     simp [h3, h4, h5, h6]
    ·have h6 : p.word = q.word := by
      by_cases e : p.word = q.word
      ·exact e
      ·exact absurd (ltB_tri _ _ h4 e) h5
     by_cases h7 : p.id < q.id
     ·simp [h3, h6, h7, List.lt_irrefl]
     ·by_cases h8 : p.id > q.id
      ·simp [h3, h6, h7, h8, List.lt_irrefl]
      ·simp [h3, h6, h7, h8, List.lt_irrefl]
theorem grow_three {w W wq : World} {o1 o2 : Obj} (h : (w.alloc o1).alloc o2 = W) (h2 : W.drew = wq) (o : Obj) : ∃ n os, wq.alloc o = grow (w.drewN n) os := by
 refine ⟨1, #[o1] ++ #[o2] ++ #[o], ?_⟩
 rw [← h2, ← h, Go.Sort.alloc_eq_grow, Go.Sort.alloc_eq_grow, Go.Sort.alloc_eq_grow, ← Go.Sort.grow_grow, ← Go.Sort.grow_grow]
 rfl
end Ix
set_option maxHeartbeats 800000 in
theorem isNaN_str_c (x : ByteArray) (w : World) : Calls Tryz.prog 264 #[.string x] w fun e w' => e = .returned (.bool false) ∧ w' = w := by
 go_enter Tryz.func264, Tryz.ntmps264
 go_wp2
 go_ret
 exact ⟨rfl, rfl⟩
set_option maxHeartbeats 800000 in
theorem cmp_str_c (x y : Ix.By) (w : World) : Calls Tryz.prog 202 #[.string ⟨x.toArray⟩, .string ⟨y.toArray⟩] w fun e w' => e = .returned (.int .i64 (Ix.cmpB x y)) ∧ w' = w := by
 have h1 : Op.bytesLess x y = decide (x < y) := Go.Proofs.bytesLess_eq x y
 have h2 : Op.bytesLess y x = decide (y < x) := Go.Proofs.bytesLess_eq y x
 by_cases g1 : x < y
 ·have HR : Hid (Ix.cmpB x y = -1) := Lib.hid (if_pos g1)
  rw [decide_eq_true g1] at h1
  clear g1
  go_enter Tryz.func202, Tryz.ntmps202
  go_wp2_with (go_at_call 264; refine (isNaN_str_c _ _).mono ?_; rintro e w' ⟨rfl, rfl⟩)
  go_ret
  exact ⟨by rw [HR.out]; rfl, rfl⟩
 ·rw [decide_eq_false g1] at h1
  by_cases g2 : y < x
  ·have HR : Hid (Ix.cmpB x y = 1) := Lib.hid (by unfold Ix.cmpB; rw [if_neg g1, if_pos g2])
   rw [decide_eq_true g2] at h2
   have h3 : (x == y) = false := by rw [beq_eq_false_iff_ne]; intro e; rw [e] at g2; exact List.lt_irrefl _ g2
   clear g1 g2
   go_enter Tryz.func202, Tryz.ntmps202
   go_wp2_with (go_at_call 264; refine (isNaN_str_c _ _).mono ?_; rintro e w' ⟨rfl, rfl⟩)
   go_ret
   exact ⟨by rw [HR.out]; rfl, rfl⟩
  ·have HR : Hid (Ix.cmpB x y = 0) := Lib.hid (by unfold Ix.cmpB; rw [if_neg g1, if_neg g2])
   rw [decide_eq_false g2] at h2
   have h3 : (x == y) = true := by
    rw [beq_iff_eq]
    by_cases e : x = y
    ·exact e
    ·exact absurd (Ix.ltB_tri _ _ g1 e) g2
   clear g1 g2
   go_enter Tryz.func202, Tryz.ntmps202
   go_wp2_with (go_at_call 264; refine (isNaN_str_c _ _).mono ?_; rintro e w' ⟨rfl, rfl⟩)
   go_ret
   exact ⟨by rw [HR.out]; rfl, rfl⟩
set_option maxHeartbeats 800000 in
theorem cmp_or_c (a b c : Int) (X : Nat) (w : World) (c0 : w.cell? ⟨X, 0, none⟩ = some (.int .i64 a)) (c1 : w.cell? ⟨X, 1, none⟩ = some (.int .i64 b)) (c2 : w.cell? ⟨X, 2, none⟩ = some (.int .i64 c)) :
  Calls Tryz.prog 50 #[.slice (some ⟨X, 0, none⟩) 3 3] w fun e w' => e = .returned (.int .i64 (Ix.orI a b c)) ∧ w' = w := by
 go_enter Tryz.func50, Tryz.ntmps50
 go_wp2
 go_loop [8] (fun i => ∃ (k : Nat), k ≤ 3 ∧ i = .int .i64 k ∧ (1 ≤ k → a = 0) ∧ (2 ≤ k → b = 0) ∧ (3 ≤ k → c = 0)) (fun i => 3 - (intOf i).toNat)
 case atStart => exact ⟨0, by omega, by go_num, fun h => by omega, fun h => by omega, fun h => by omega⟩
 case round =>
  obtain ⟨k, hk, rfl, ha, hb, hc⟩ := hrel
  rcases (by omega : k = 0 ∨ k = 1 ∨ k = 2 ∨ k = 3) with rfl | rfl | rfl | rfl
  ·cases hq : (a != 0) with
   | true =>
    have HR : Hid (Ix.orI a b c = a) := Lib.hid (if_pos (by simpa using hq))
    clear ha hb hc
    go_wp2
    go_ret
    exact ⟨by rw [HR.out]; rfl, rfl⟩
   | false =>
    have ha0 := Lib.hid (show a = 0 by simpa using hq)
    clear ha hb hc
    go_wp2
    go_round
    case rel => exact ⟨1, by omega, by go_num, fun _ => ha0.out, fun h => by omega, fun h => by omega⟩
    case measure => simp [intOf]
  ·have ha0 := Lib.hid (ha (by omega))
   clear ha hb hc
   cases hq : (b != 0) with
   | true =>
    have HR : Hid (Ix.orI a b c = b) := Lib.hid (by unfold Ix.orI; rw [if_neg (by rw [ha0.out]; simp), if_pos (by simpa using hq)])
    go_wp2
    go_ret
    exact ⟨by rw [HR.out]; rfl, rfl⟩
   | false =>
    have hb0 := Lib.hid (show b = 0 by simpa using hq)
    go_wp2
    go_round
    case rel => exact ⟨2, by omega, by go_num, fun _ => ha0.out, fun _ => hb0.out, fun h => by omega⟩
    case measure => simp [intOf]
  ·have ha0 := Lib.hid (ha (by omega))
   have hb0 := Lib.hid (hb (by omega))
   clear ha hb hc
   have HR : Hid (Ix.orI a b c = c) := Lib.hid (by unfold Ix.orI; rw [if_neg (by rw [ha0.out]; simp), if_neg (by rw [hb0.out]; simp)])
   cases hq : (c != 0) with
   | true =>
    go_wp2
    go_ret
    exact ⟨by rw [HR.out]; rfl, rfl⟩
   | false =>
    have hc0 := Lib.hid (show c = 0 by simpa using hq)
    go_wp2
    go_round
    case rel => exact ⟨3, by omega, by go_num, fun _ => ha0.out, fun _ => hb0.out, fun _ => hc0.out⟩
    case measure => simp [intOf]
  ·have ha0 := Lib.hid (ha (by omega))
   have hb0 := Lib.hid (hb (by omega))
   have hc0 := Lib.hid (hc (by omega))
   clear ha hb hc
   have HR : Hid (Ix.orI a b c = 0) := Lib.hid (by unfold Ix.orI; rw [ha0.out, hb0.out, hc0.out]; rfl)
   go_wp2
   go_ret
   exact ⟨by rw [HR.out]; rfl, rfl⟩
set_option maxHeartbeats 1600000 in
theorem ix_order_c (p q : Ix.PT) (w : World) : Calls Tryz.prog 121 #[.agg #[.int .i64 p.1.fld, .string ⟨p.1.word.toArray⟩, .int .i64 p.1.id, .slice p.2.1 p.1.at_.length p.2.2], .agg #[.int .i64 q.1.fld, .string ⟨q.1.word.toArray⟩, .int .i64 q.1.id, .slice q.2.1 q.1.at_.length q.2.2]] w fun e w' => e = .returned (.int .i64 (Ix.cmpP p.1 q.1)) ∧ ∃ n os, w' = grow (w.drewN n) os := by
 obtain ⟨W, hW⟩ : ∃ W, (w.alloc (.cells #[.int .i64 p.1.fld, .string ⟨p.1.word.toArray⟩, .int .i64 p.1.id, .slice p.2.1 p.1.at_.length p.2.2] 100)).alloc (.cells #[.int .i64 q.1.fld, .string ⟨q.1.word.toArray⟩, .int .i64 q.1.id, .slice q.2.1 q.1.at_.length q.2.2] 100) = W := ⟨_, rfl⟩
 have HW := Lib.hid hW
 have c0 : W.cell? ⟨w.heap.size, 0, none⟩ = some (.int .i64 p.1.fld) := by rw [← hW]; simp
 have c1 : W.cell? ⟨w.heap.size, 1, none⟩ = some (.string ⟨p.1.word.toArray⟩) := by rw [← hW]; simp
 have c2 : W.cell? ⟨w.heap.size, 2, none⟩ = some (.int .i64 p.1.id) := by rw [← hW]; simp
 have d0 : W.cell? ⟨w.heap.size + 1, 0, none⟩ = some (.int .i64 q.1.fld) := by rw [← hW]; simp
 have d1 : W.cell? ⟨w.heap.size + 1, 1, none⟩ = some (.string ⟨q.1.word.toArray⟩) := by rw [← hW]; simp
 have d2 : W.cell? ⟨w.heap.size + 1, 2, none⟩ = some (.int .i64 q.1.id) := by rw [← hW]; simp
 go_enter Tryz.func121, Tryz.ntmps121
 go_wp2
 clear hW
 refine wp_region_still_tail 15 (by kernel_rfl) (by kernel_rfl) ?_
 simp only [List.take_succ_cons, List.take_zero, List.drop_succ_cons, List.drop_zero]
 repeat still_step
 still_call (Tryz.cmp_Compare_int p.1.fld q.1.fld _)
 repeat still_step
 still_call (cmp_str_c p.1.word q.1.word _)
 repeat still_step
 still_call (Tryz.cmp_Compare_int p.1.id q.1.id _)
 try refine wpStill_nil ?_
 change wpList _ _ _ _ _ W.drew
 obtain ⟨wq, hwq⟩ : ∃ wq, W.drew = wq := ⟨_, rfl⟩
 have HQ := Lib.hid hwq
 rw [hwq]
 clear hwq
 go_wp2_with (go_at_call 50; refine (cmp_or_c (Lib.compareInt p.1.fld q.1.fld) (Ix.cmpB p.1.word q.1.word) (Lib.compareInt p.1.id q.1.id) wq.heap.size _ (by simp) (by simp) (by simp)).mono ?_; rintro e w' ⟨rfl, rfl⟩)
 go_ret
 exact ⟨rfl, Ix.grow_three HW.out HQ.out _⟩
theorem ix_order_enters : ∀ args w, (callFunc 121 args).run Tryz.prog w = .ok (.enter 121 args) w := enters_of Tryz.func121 (by kernel_rfl) rfl
instance : Inhabited Ix.PT := ⟨(⟨0, [], 0, []⟩, none, 0)⟩
namespace Ix
open Go.Sort (putRow putCells mapBlock onCells flatK)
theorem ltK_congr {x y z : Post} (h : sameK x y) : ltK x z = ltK y z := by
 unfold ltK
 rw [h.1, h.2.1, h.2.2]
theorem swoP : Go.Sort.SWO (fun x y : PT => ltK x.1 y.1) where
 irrefl x := ltK_irrefl x.1
 trans x y z h1 h2 := ltK_trans h1 h2
 ntrans x y z h1 h2 := by
  by_cases hs : sameK x.1 y.1
  ·rw [ltK_congr hs]; exact h2
  ·have h3 := ltK_tri h1 hs
   rw [Bool.eq_false_iff]
   intro h4
   have h5 := ltK_trans h3 h4
   rw [h2] at h5
   cases h5
theorem flat_list (d : Array PT) : (flatK encP 4 d).toList = d.toList.flatMap encP := by
 apply List.ext_getElem?
 intro t
 rcases Nat.lt_or_ge t (d.size * 4) with h | h
 ·have hk : t / 4 < d.toList.length := by rw [Array.length_toList]; omega
  obtain ⟨x, hx⟩ : ∃ x, d.toList[t / 4]? = some x := ⟨_, List.getElem?_eq_getElem hk⟩
  have h1 := Br.flat_at encP 4 encP_len d.toList (t / 4) (t % 4) x hx (by omega)
  rw [show t / 4 * 4 + t % 4 = t by omega] at h1
  rw [h1, Array.getElem?_toList, Array.getElem?_eq_getElem (by simpa using h), ← getElem!_pos (flatK encP 4 d) t (by simpa using h), Go.Sort.get_flatK _ _ _ _ h]
  have hx2 : d[t / 4]! = x := by
   rw [Array.getElem?_toList] at hx
   rw [getElem!_def, hx]
  rw [hx2]
  have h3 : t % 4 < (encP x).length := by rw [encP_len]; omega
  rw [getElem!_pos (encP x) (t % 4) h3, List.getElem?_eq_getElem h3]
 ·rw [List.getElem?_eq_none (by rw [Array.length_toList, Go.Sort.size_flatK]; exact h), List.getElem?_eq_none (by rw [Br.flat_len encP 4 encP_len, Array.length_toList]; exact h)]
theorem holds_of_rows {w : World} {g : Nat} {cur : Array Value} {e : TypeId} {T : List PT} (hb : w.heap[g]? = some (.cells cur e (0, 0))) (ht : cur.toList.take (T.length * 4) = T.flatMap encP) : Go.Sort.HoldsK encP 4 w g 0 T.toArray := by
 intro j hj
 have hj' : j < T.length * 4 := by simpa using hj
 refine ⟨?_, by simp [World.frozen?, hb]⟩
 have h1 : (cur.toList.take (T.length * 4))[j]? = (T.flatMap encP)[j]? := by rw [ht]
 rw [List.getElem?_take_of_lt hj'] at h1
 simp only [World.cell?, hb, Nat.zero_add]
 have h2 := flat_list T.toArray
 simp only [] at h2
 rw [← h2, Array.getElem?_toList, Array.getElem?_toList] at h1
 rw [h1, Array.getElem?_eq_getElem hj, getElem!_pos _ j hj]
 rfl
theorem heap_sortedP {w : World} {g n : Nat} {os : Array Obj} {cur : Array Value} {e : TypeId} {fr : Nat × Nat} (F : Array Value) (hb : w.heap[g]? = some (.cells cur e fr)) :
  (grow (putRow id (Go.Sort.ahead w n) g 0 F) os).heap[g]? = some (.cells (putCells id 0 F cur) e fr) := by
 have hg : g < w.heap.size := (Array.getElem?_eq_some_iff.1 hb).1
 rw [Go.Sort.heap_grow_old _ _ (by simpa using hg)]
 simp [putRow, mapBlock, Go.Sort.ahead, Array.getElem?_modify, hb, onCells]
theorem grownBy_sortedP {w : World} {g n : Nat} {os : Array Obj} (F : Array Value) : w.grownBy (grow (putRow id (Go.Sort.ahead w n) g 0 F) os) (some g) := by
 refine ⟨rfl, rfl, rfl, by simp, fun k hk hne => ?_⟩
 rw [Go.Sort.heap_grow_old _ _ (by simpa using hk)]
 have : g ≠ k := fun e => hne (by rw [e])
 simp [putRow, mapBlock, Go.Sort.ahead, Array.getElem?_modify, this]
theorem take_putCellsP (cur : Array Value) (F : Array Value) (h : F.size ≤ cur.size) : (putCells id 0 F cur).toList.take F.size = F.toList := by
 apply List.ext_getElem?
 intro j
 by_cases hj : j < F.size
 ·rw [List.getElem?_take_of_lt hj, Array.getElem?_toList]
  simp [putCells, hj, show j < cur.size by omega]
 ·rw [List.getElem?_take_eq_none (by omega), List.getElem?_eq_none (by simp; omega)]
theorem ownsRow_sortedP {w : World} {base g cap n m : Nat} {e : TypeId} {os : Array Obj} {cur : Array Value} {F : Array Value} (hl : F.size = m * 4) (hbase : base ≤ g) (hb : w.heap[g]? = some (.cells cur e (0, 0)))
  (h1 : m ≤ cap) (h2 : cap ≤ maxLen) (h3 : cur.size = cap * 4) :
  (grow (putRow id (Go.Sort.ahead w n) g 0 F) os).ownsRow base e 4 (.slice (some ⟨g, 0, none⟩) m cap) m F.toList :=
 ⟨by simp [hl], .inr ⟨g, cap, _, rfl, hbase, heap_sortedP _ hb, h1, h2, by simp [putCells, h3], by rw [← hl]; exact take_putCellsP cur F (by omega)⟩⟩
end Ix
theorem ix_sort_c (blk cap : Nat) (d : Array Ix.PT) (w : World) (hH : Go.Sort.HoldsK Ix.encP 4 w blk 0 d) (hblk : blk < w.heap.size) (hsz : d.size < 1000000000000) :
  Calls Tryz.prog 120 #[.slice (some ⟨blk, 0, none⟩) d.size cap, .func (.func 121) #[] #[]] w fun e w' => e = .returned (.tuple #[]) ∧ ∃ d' n os, Go.Sort.PermIn 0 d.size d d' ∧ Go.Sort.SortedIn (fun x y : Ix.PT => Ix.ltK x.1 y.1) 0 d.size d' ∧ w' = sortWorldK Ix.encP 4 w blk 0 n d' os := by
 have hlt : ltOf (fun x y : Ix.PT => Ix.cmpP x.1 y.1) = fun x y : Ix.PT => Ix.ltK x.1 y.1 := by funext x y; exact Ix.cmpP_lt x.1 y.1
 have h := AnyQ.slices_SortFunc Tryz.sortPost 4 Tryz.isAgg100 Tryz.sizeOf100 Ix.encP Ix.encP_len Ix.p_one (fun x y : Ix.PT => Ix.cmpP x.1 y.1) (by rw [hlt]; exact Ix.swoP) 121 #[] blk 0 cap d w ix_order_enters (fun _ _ _ _ x y => ix_order_c x y _) hH hblk (by omega)
 rw [hlt] at h
 exact h
theorem ix_sorted_c {v : Value} {T : List Ix.PT} {B : Nat} {w : World} (h : Ix.OwnP w B v T) (hl : T.length < 1000000000000) :
  Calls Tryz.prog 120 #[v, .func (.func 121) #[] #[]] w fun e w' => e = .returned (.tuple #[]) ∧ ∃ S : List Ix.PT, S.Perm T ∧ (S.Pairwise fun x y => Ix.ltK y.1 x.1 = false) ∧ Ix.OwnP w' B v S ∧ w.grownBy w' v.ownBlock := by
 rcases h.2 with ⟨rfl, h0⟩ | ⟨g, cap, cur, rfl, hbase, hb, h1, h2, h3, h4⟩
 ·have hnil := List.eq_nil_of_length_eq_zero h0
  subst hnil
  refine (AnyF.slices_SortFunc_none Tryz.sortPost none 0 (.func (.func 121) #[] #[]) w).mono fun e w' ⟨he, hw⟩ => ?_
  subst hw
  exact ⟨he, [], List.Perm.refl _, List.Pairwise.nil, World.ownsRow_nil _ _ _ _, ⟨rfl, rfl, rfl, Nat.le_refl _, fun _ _ _ => rfl⟩⟩
 ·have hH := Ix.holds_of_rows hb h4
  refine (ix_sort_c g cap T.toArray w hH (Array.getElem?_eq_some_iff.1 hb).1 (by simpa using hl)).mono fun e w' ⟨he, d', n, os, hp, hs, hw⟩ => ?_
  subst hw
  have hsz : d'.size = T.length := by have := hp.1; simpa using this
  have hperm : d'.toList.Perm T := by
   have h5 := hp.2.2
   have e1 : d'.extract 0 T.toArray.size = d' := by simp [← hsz]
   have e2 : T.toArray.extract 0 T.toArray.size = T.toArray := by simp
   rw [e1, e2] at h5
   exact h5
  refine ⟨he, d'.toList, hperm, ?_, ?_, Ix.grownBy_sortedP _⟩
  ·rw [List.pairwise_iff_getElem]
   intro i j hi hj hij
   have h6 := hs i j (Nat.zero_le _) hij (by simp; rw [← hsz]; simpa using hj)
   rw [getElem!_pos d' i (by simpa using hi), getElem!_pos d' j (by simpa using hj)] at h6
   exact h6
  ·have h7 := Ix.ownsRow_sortedP (n := n) (os := os) (F := Go.Sort.flatK Ix.encP 4 d') (m := T.length) (by rw [Go.Sort.size_flatK, hsz]) hbase hb h1 h2 h3
   rw [Ix.flat_list] at h7
   unfold Ix.OwnP
   rw [show d'.toList.length = T.length from by rw [Array.length_toList, hsz]]
   exact h7
end Go.Proofs.YtlakomilichhnaaGreatDoor
namespace Go.Proofs.YtlakomilichhnaaGreatDoor
open Go.RowKit
set_option maxRecDepth 100000
namespace Ix
open Rc
def intE (v : Value) : Option (DataW Unit × List MemPlace) := match v with
 | .int .i64 n => some (.lit (.int .i64 n), [])
 | _ => none
theorem intE_some {v : Value} {n : Int} {ps : List MemPlace} (h : intE v = some (.lit (.int .i64 n), ps)) : v = .int .i64 n := by
 unfold intE at h
 split at h
 ·simp at h
  rw [h.1]
 ·cases h
structure SMap (w : World) (M n : Nat) (f : By → Option Nat) : Prop where
 d : ∃ D : DataW Unit, w.ownsMap Tryz.prog 9 intE M n D ∧ ∀ x : By, x.length ≤ 9223372036854775807 → Maps.has D (.string x) = (f x).isSome ∧ D.atKey (.string x) (.lit (.int .i64 0)) = .lit (.int .i64 (match f x with | some k => (k : Int) | none => 0))
theorem skey : Maps.Keyed Tryz.prog 9 := Maps.string_keyed Tryz.underlying9
theorem szero (w : World) : (zeroValue 3).run Tryz.prog w = .ok (.int .i64 0) w := by kernel_rfl
theorem SMap.of_block {w w' : World} {M n : Nat} {f : By → Option Nat} (h : SMap w M n f) (hb : w'.heap[M]? = w.heap[M]?) : SMap w' M n f := by
 obtain ⟨D, ⟨es, clock, h1, h2⟩, h3⟩ := h.d
 exact ⟨D, ⟨es, clock, hb.trans h1, h2⟩, h3⟩
theorem SMap.lt {w : World} {M n : Nat} {f : By → Option Nat} (h : SMap w M n f) : M < w.heap.size := by
 obtain ⟨D, h1, _⟩ := h.d
 exact h1.lt
theorem SMap.obj {w : World} {M n : Nat} {f : By → Option Nat} (h : SMap w M n f) : ∃ es c, w.heap[M]? = some (.map es c) := by
 obtain ⟨D, ⟨es, clock, h1, _⟩, _⟩ := h.d
 exact ⟨es, clock, h1⟩
theorem SMap.made (w : World) : SMap (w.alloc (.map #[] 0)) w.heap.size 0 (fun _ => none) :=
 ⟨⟨.map [], World.ownsMap_made _ _ _ _, fun _ _ => ⟨rfl, rfl⟩⟩⟩
section
variable {w : World} {ops : Array Oper} {rest : List Oper} {o : Oper} {a : Act} {Q : Exit → Act → World → Prop} {M n : Nat} {f : By → Option Nat}
theorem keyS (x : By) (h : x.length ≤ 9223372036854775807) : keyOf Tryz.prog 9 (.string ⟨x.toArray⟩) = some (.string x) :=
 Go.WideMaps.keyOf_string_mk Tryz.underlying9 (by unfold maxLen; show x.toArray.size ≤ _; simpa using h)
theorem smap_look {x : By} (hp : SMap w M n f) (hw : x.length ≤ 9223372036854775807) (hg : o.guard = none) (m k : Operand) (hop : o.op = Op.lookup 207 m k true)
  (hm : a.eval m = .map (some M)) (hx : a.eval k = .string ⟨x.toArray⟩) (hK : wpList Tryz.prog ops Q rest (a.put o.dst (.tuple #[.int .i64 (match f x with | some k => (k : Int) | none => 0), .bool (f x).isSome])) w) : wpList Tryz.prog ops Q (o :: rest) a w := by
 obtain ⟨D, h1, h2⟩ := hp.d
 obtain ⟨h3, h4⟩ := h2 x hw
 refine wpList_lookup_own_ok w hg m k _ hop 9 3 skey Tryz.underlying207 intE (szero w) (.lit (.int .i64 0)) [] rfl M n D hm h1 _ _ hx (keyS x hw) fun v ps hv => ?_
 rw [h4] at hv
 obtain rfl := intE_some hv
 rw [h3]
 exact hK
theorem smap_put {x : By} {k : Nat} (hp : SMap w M n f) (hn : n < maxLen) (hw : x.length ≤ 9223372036854775807) (hg : o.guard = none) (m y v : Operand) (hop : o.op = Op.mapUpdate 207 m y v)
  (hm : a.eval m = .map (some M)) (hx : a.eval y = .string ⟨x.toArray⟩) (hv : a.eval v = .int .i64 k)
  (hK : ∀ w', SMap w' M (n + 1) (fun y => if y = x then some k else f y) → w.grownBy w' (some M) → wpList Tryz.prog ops Q rest (a.put o.dst undef) w') : wpList Tryz.prog ops Q (o :: rest) a w := by
 obtain ⟨D, h1, h2⟩ := hp.d
 refine wpList_mapUpdate_own w hg m y v _ hop 9 3 skey Tryz.underlying207 intE M n D hm h1 hn _ _ _ hx hv (keyS x hw) (.lit (.int .i64 k)) [] rfl fun w' h3 h4 => ?_
 refine hK w' ⟨⟨_, h3, fun y hy => ?_⟩⟩ h4
 have ht := (h1.tidy skey).isMap
 by_cases hyb : y = x
 ·subst hyb
  have hk : WideAt.IsKeyLit (Lit.string y) := trivial
  rw [if_pos rfl, Maps.has_put_same ht hk, Maps.atKey_put_same ht hk]
  exact ⟨rfl, rfl⟩
 ·have hne : Lit.string y ≠ Lit.string x := fun e => hyb (by injection e)
  rw [if_neg hyb, Maps.has_put_other hne, Maps.atKey_put_other hne]
  exact h2 y hy
end
def posF : List By → By → Option Nat
 | [], _ => none
 | y :: r, x => if y = x then some 0 else (posF r x).map (· + 1)
theorem posF_none : ∀ {l : List By} {x : By}, x ∉ l → posF l x = none
 | [], _, _ => rfl
 | y :: r, x, h => by
  rw [List.mem_cons, not_or] at h
  unfold posF
  rw [if_neg (fun e => h.1 e.symm), posF_none h.2]
  rfl
theorem posF_some : ∀ {l : List By} {x : By}, x ∈ l → ∃ k, posF l x = some k ∧ l[k]? = some x
 | [], _, h => by cases h
 | y :: r, x, h => by
  unfold posF
  by_cases e : y = x
  ·exact ⟨0, by rw [if_pos e], by simp [e]⟩
  ·obtain ⟨k, h1, h2⟩ := posF_some (l := r) (x := x) (by
    rcases List.mem_cons.1 h with h | h
    ·exact absurd h.symm e
    ·exact h)
   exact ⟨k + 1, by rw [if_neg e, h1]; rfl, by simpa using h2⟩
theorem posF_snoc : ∀ {l : List By} {y : By} (x : By), y ∉ l → posF (l ++ [y]) x = if x = y then some l.length else posF l x
 | [], y, x, _ => by
  by_cases e : x = y
  ·rw [if_pos e, e]; simp [posF]
  ·have e2 : ¬ y = x := fun e2 => e e2.symm
   rw [if_neg e]; simp [posF, e2]
 | z :: r, y, x, h => by
  rw [List.mem_cons, not_or] at h
  rw [List.cons_append, posF, posF, posF_snoc x h.2]
  by_cases e : x = y
  ·have : ¬ z = x := fun e2 => h.1 (by rw [e2, e])
   rw [if_pos e, if_neg this, if_pos e]; rfl
  ·rw [if_neg e, if_neg e]
theorem own_ne2 {w : World} {B B2 e e2 s s2 n n2 : Nat} {v v2 : Value} {xs xs2 : List Value} (h : w.ownsRow B e s v n xs) (h2 : w.ownsRow B2 e2 s2 v2 n2 xs2) (he : e ≠ e2) : ∀ g, v.ownBlock = some g → v2.ownBlock ≠ some g := by
 intro g hg hg2
 rcases h.2 with ⟨rfl, _⟩ | ⟨b, cap, cur, rfl, _, hb, _⟩
 ·cases hg
 ·rcases h2.2 with ⟨rfl, _⟩ | ⟨b2, cap2, cur2, rfl, _, hb2, _⟩
  ·cases hg2
  ·have hg' : b = g := by injection hg
   have hg2' : b2 = g := by injection hg2
   subst hg'
   subst hg2'
   rw [hb] at hb2
   injection hb2 with hb2
   injection hb2 with _ hb2
   exact he hb2
theorem own_ne_map2 {w : World} {B e size n M m : Nat} {v : Value} {xs : List Value} {f : By → Option Nat} (h : w.ownsRow B e size v n xs) (hM : SMap w M m f) : v.ownBlock ≠ some M := fun e => by
 obtain ⟨es, cl, hM⟩ := hM.obj
 rcases h.2 with ⟨rfl, _⟩ | ⟨b, cap, cur, rfl, _, hb, _⟩
 ·cases e
 ·have e' : b = M := by injection e
  subst e'
  rw [hM] at hb
  cases hb
abbrev atV (t : PT) : Value := .slice t.2.1 t.1.at_.length t.2.2
abbrev AtO (w : World) (B : Nat) (t : PT) : Prop := w.ownsRow B 3 1 (atV t) t.1.at_.length (t.1.at_.map (Value.int .i64))
structure PosS (w : World) (B : Nat) (v : Value) (T : List PT) : Prop where
 own : OwnP w B v T
 rows : ∀ t ∈ T, AtO w B t
 sep : ∀ (i j : Nat) s t, i ≠ j → T[i]? = some s → T[j]? = some t → ∀ g, (atV s).ownBlock = some g → (atV t).ownBlock ≠ some g
theorem PosS.nil (w : World) (B : Nat) : PosS w B (.slice none 0 0) [] := ⟨World.ownsRow_nil _ _ _ _, (fun t ht => by cases ht), (fun i j s t _ hi => by simp at hi)⟩
theorem PosS.below {w w' : World} {B : Nat} {v : Value} {T : List PT} (h : PosS w B v T) (hb : Below w.heap.size w w') : PosS w' B v T :=
 ⟨own_below h.own hb, fun t ht => own_below (h.rows t ht) hb, h.sep⟩
theorem PosS.kept {w w' : World} {B : Nat} {v : Value} {T : List PT} {row : Option Nat} (h : PosS w B v T) (hg : w.grownBy w' row) (h1 : ∀ g, v.ownBlock = some g → row ≠ some g) (h2 : ∀ t ∈ T, ∀ g, (atV t).ownBlock = some g → row ≠ some g) : PosS w' B v T := by
 have key : ∀ {u : Value}, (∀ g, u.ownBlock = some g → row ≠ some g) → u.ownBlock = none ∨ u.ownBlock ≠ row := fun {u} hu => by
  cases hv : u.ownBlock with
  | none => exact .inl rfl
  | some j => exact .inr (fun e => hu j hv e.symm)
 exact ⟨h.own.kept hg (key h1), fun t ht => (h.rows t ht).kept hg (key (h2 t ht)), h.sep⟩
theorem PosS.push {w w' : World} {B : Nat} {v v' : Value} {T : List PT} {p : Post} (h : PosS w B v T) (hp : p.at_ = []) (hg : w.grownBy w' v.ownBlock) (hown : OwnP w' B v' (T ++ [(p, none, 0)])) : PosS w' B v' (T ++ [(p, none, 0)]) := by
 refine ⟨hown, fun t ht => ?_, ?_⟩
 ·rcases List.mem_append.1 ht with ht | ht
  ·have h1 := h.rows t ht
   refine h1.kept hg ?_
   cases hv : (atV t).ownBlock with
   | none => exact .inl rfl
   | some j => exact .inr (fun e => own_ne2 h1 h.own (by decide) j hv e.symm)
  ·rw [List.mem_singleton] at ht
   rw [ht]
   unfold AtO atV
   simp only [hp]
   exact World.ownsRow_nil _ _ _ _
 ·intro i j s t hij hi hj g hs ht
  have key : ∀ {j : Nat} {t : PT}, (T ++ [(p, none, 0)])[j]? = some t → (j < T.length ∧ T[j]? = some t) ∨ t = (p, none, 0) := fun {j} {t} hj => by
   rcases Nat.lt_or_ge j T.length with h1 | h1
   ·rw [List.getElem?_append_left h1] at hj; exact .inl ⟨h1, hj⟩
   ·rw [List.getElem?_append_right h1] at hj
    exact .inr (List.mem_singleton.1 (List.mem_of_getElem? hj))
  rcases key hi with ⟨_, hi⟩ | hi
  ·rcases key hj with ⟨_, hj⟩ | hj
   ·exact h.sep i j s t hij hi hj g hs ht
   ·rw [hj] at ht; cases ht
  ·rw [hi] at hs; cases hs
theorem flat_set : ∀ (T : List PT) (k : Nat) (t t' : PT) (u : Value), T[k]? = some t → encP t' = (encP t).set 3 u → (T.set k t').flatMap encP = (T.flatMap encP).set (k * 4 + 3) u
 | [], k, t, t', u, h, _ => by simp at h
 | y :: r, 0, t, t', u, h, he => by
  have h0 : y = t := by simpa using h
  subst h0
  rw [List.set_cons_zero, List.flatMap_cons, List.flatMap_cons, he]
  rfl
 | y :: r, k + 1, t, t', u, h, he => by
  have ih := flat_set r k t t' u (by simpa using h) he
  rw [List.set_cons_succ, List.flatMap_cons, List.flatMap_cons, ih, List.set_append, if_neg (by rw [encP_len]; omega), encP_len, show (k + 1) * 4 + 3 - 4 = k * 4 + 3 by omega]
theorem own_cell_set {w : World} {B g cap k : Nat} {T : List PT} {t t' : PT} {u : Value} (h : OwnP w B (.slice (some ⟨g, 0, none⟩) T.length cap) T) (hk : T[k]? = some t) (he : encP t' = (encP t).set 3 u) : OwnP (w.setCell ⟨g, k * 4 + 3, none⟩ u) B (.slice (some ⟨g, 0, none⟩) (T.set k t').length cap) (T.set k t') := by
 unfold OwnP
 rw [flat_set T k t t' u hk he, List.length_set]
 refine ⟨by rw [List.length_set]; exact h.1, ?_⟩
 rcases h.2 with ⟨h1, _⟩ | ⟨b, cap2, cur, h1, h2, h3, h4, h5, h6, h7⟩
 ·cases h1
 ·have hb : b = g := by injection h1 with h1; injection h1 with h1; injection h1 with h1; exact h1.symm
  have hc : cap2 = cap := by injection h1 with _ _ h1; exact h1.symm
  subst hb hc
  refine .inr ⟨b, cap2, cur.setIfInBounds (k * 4 + 3) u, rfl, h2, ?_, h4, h5, by simpa using h6, ?_⟩
  ·simp [World.setCell, Array.getElem?_modify, h3]
  ·rw [Array.toList_setIfInBounds, ← h7, List.take_set]
theorem set_get {T : List PT} {k j : Nat} {t' t2 : PT} (h : (T.set k t')[j]? = some t2) : (j = k ∧ t2 = t') ∨ (j ≠ k ∧ T[j]? = some t2) := by
 by_cases e : j = k
 ·subst e
  rw [List.getElem?_set_self' ] at h
  cases hj : T[j]? with
  | none => rw [hj] at h; cases h
  | some y => rw [hj] at h; simp at h; exact .inl ⟨rfl, h.symm⟩
 ·rw [List.getElem?_set_ne (fun e2 => e e2.symm)] at h
  exact .inr ⟨e, h⟩
theorem row_set {w : World} {B e size n : Nat} {v : Value} {xs : List Value} (h : w.ownsRow B e size v n xs) (p : Addr) (u : Value) (hne : ∀ g, v.ownBlock = some g → g ≠ p.block) : (w.setCell p u).ownsRow B e size v n xs := by
 refine ⟨h.1, ?_⟩
 rcases h.2 with h1 | ⟨g, cap, cur, rfl, h2, h3, h4⟩
 ·exact .inl h1
 ·exact .inr ⟨g, cap, cur, rfl, h2, (Below.heap_setCell _ _ _ _ (hne g rfl)).trans h3, h4⟩
theorem PosS.upd {w wA wq : World} {B g cap k : Nat} {T : List PT} {p : Post} {a a' : Option Addr} {c c' : Nat} {i : Int} (h : PosS w B (.slice (some ⟨g, 0, none⟩) T.length cap) T) (hA : Below w.heap.size w wA) (hk : T[k]? = some (p, a, c))
  (hg : wA.grownBy wq (atV (p, a, c)).ownBlock) (hown : wq.ownsRow B 3 1 (.slice a' (p.at_.length + 1) c') (p.at_.length + 1) (p.at_.map (Value.int .i64) ++ [.int .i64 i])) (hv : (Value.slice a' (p.at_.length + 1) c').ownBlock = (atV (p, a, c)).ownBlock ∨ (Value.slice a' (p.at_.length + 1) c').ownBlock = some wA.heap.size) :
  PosS (wq.setCell ⟨g, k * 4 + 3, none⟩ (.slice a' (p.at_.length + 1) c')) B (.slice (some ⟨g, 0, none⟩) (T.set k (⟨p.fld, p.word, p.id, p.at_ ++ [i]⟩, a', c')).length cap) (T.set k (⟨p.fld, p.word, p.id, p.at_ ++ [i]⟩, a', c')) := by
 have h1 := h.below hA
 have hmem := List.mem_of_getElem? hk
 have hrow := h1.rows _ hmem
 have keyn : ∀ {u : Value}, (∀ b, u.ownBlock = some b → (atV (p, a, c)).ownBlock ≠ some b) → u.ownBlock = none ∨ u.ownBlock ≠ (atV (p, a, c)).ownBlock := fun {u} hu => by
  cases hv : u.ownBlock with
  | none => exact .inl rfl
  | some j => exact .inr (fun e => hu j hv e.symm)
 have hownP : OwnP wq B (.slice (some ⟨g, 0, none⟩) T.length cap) T := h1.own.kept hg (keyn (own_ne2 h1.own hrow (by decide)))
 have hgb : (Value.slice (some ⟨g, 0, none⟩) T.length cap).ownBlock = some g := rfl
 have hlen : (Value.slice a' (p.at_ ++ [i]).length c') = .slice a' (p.at_.length + 1) c' := by rw [List.length_append]; rfl
 refine ⟨own_cell_set hownP hk (by simp [encP, List.length_append]), fun t2 ht2 => ?_, ?_⟩
 ·obtain ⟨j, hj⟩ := List.getElem?_of_mem ht2
  rcases set_get hj with ⟨_, rfl⟩ | ⟨hne, hj⟩
  ·unfold AtO atV
   simp only [List.length_append, List.length_cons, List.length_nil, List.map_append, List.map_cons, List.map_nil]
   refine row_set hown _ _ (fun b hb e => ?_)
   exact own_ne2 hown hownP (by decide) b hb (by rw [e]; exact hgb)
  ·have hr2 := h1.rows t2 (List.mem_of_getElem? hj)
   have hr3 := hr2.kept hg (keyn (fun b hb => h1.sep j k t2 _ hne hj hk b hb))
   exact row_set hr3 _ _ (fun b hb e => own_ne2 hr3 hownP (by decide) b hb (by rw [e]; exact hgb))
 ·intro x y s t hxy hx hy b hs ht
  have hnew : ∀ {j : Nat} {s : PT}, j ≠ k → T[j]? = some s → ∀ b, (atV s).ownBlock = some b → (Value.slice a' (p.at_.length + 1) c').ownBlock ≠ some b := fun {j} {s} hj hs b hb e => by
   rcases hv with hv | hv
   ·rw [hv] at e
    exact h1.sep j k s _ hj hs hk b hb e
   ·rw [hv] at e
    have := ((h1.rows s (List.mem_of_getElem? hs)).lt b hb).2
    injection e with e
    omega
  rcases set_get hx with ⟨hxk, rfl⟩ | ⟨hxk, hx⟩
  ·rcases set_get hy with ⟨hyk, rfl⟩ | ⟨hyk, hy⟩
   ·omega
   ·exact hnew hyk hy b ht (by rw [← hlen]; exact hs)
  ·rcases set_get hy with ⟨hyk, rfl⟩ | ⟨hyk, hy⟩
   ·exact hnew hxk hx b hs (by rw [← hlen]; exact ht)
   ·exact h1.sep x y s t hxy hx hy b hs ht
end Ix
end Go.Proofs.YtlakomilichhnaaGreatDoor
namespace Go.Proofs.YtlakomilichhnaaGreatDoor
namespace Tx
open Go.Lib
theorem lens_mem : ∀ {l : List (List UInt8)} {x : List UInt8}, x ∈ l → x.length ≤ lens l
 | y :: r, x, h => by
  rcases List.mem_cons.1 h with rfl | h
  ·simp [lens]
  ·have := lens_mem h
   simp [lens] at this ⊢
   omega
theorem words_good {l : List UInt8} (hv : valid l = true) : (∀ w ∈ words l, valid w = true ∧ w ≠ [] ∧ w.length ≤ 2 * l.length) ∧ (words l).length ≤ 2 * l.length := by
 have h1 := fieldsT_good sepW (foldS_valid hv)
 have h2 := foldS_len hv
 unfold words
 refine ⟨fun w hw => ⟨(h1.1 w hw).1, (h1.1 w hw).2, ?_⟩, by omega⟩
 have := lens_mem hw
 omega
end Tx
namespace Ix
open Rc
def Wok (x : By) : Prop := x ≠ [] ∧ x.length ≤ 10000000
theorem wordsF_ok {f : Fl} (h : Gd f) (codes : By) : ∀ x ∈ wordsF f codes, Wok x := by
 intro x hx
 unfold wordsF at hx
 obtain ⟨s, hs, hx⟩ := List.mem_flatMap.1 hx
 unfold allV at hs
 obtain ⟨y, hy, rfl⟩ := List.mem_map.1 hs
 have hg := h.2 y (List.mem_filter.1 hy).1
 have h1 := (Tx.words_good hg.2).1 x hx
 have h2 : y.2.data.toList.length = y.2.size := by rw [Lib.size_eq]
 exact ⟨h1.2.1, by have := h1.2.2; omega⟩
theorem pick_ok {p : Fl → Bool} {codes : By} {fs : List Fl} (h : ∀ f ∈ fs, Gd f) : ∀ x ∈ pick p codes fs, Wok x := by
 intro x hx
 unfold pick at hx
 obtain ⟨f, hf, hx⟩ := List.mem_flatMap.1 hx
 exact wordsF_ok (h f (List.mem_filter.1 hf).1) codes x hx
theorem nums_ok {fs : List Fl} (h : ∀ f ∈ fs, Gd f) : ∀ x ∈ nums fs, Wok x := by
 intro x hx
 unfold nums at hx
 obtain ⟨f, hf, hx⟩ := List.mem_flatMap.1 hx
 unfold numF at hx
 rw [List.mem_filter] at hx
 obtain ⟨s, hs, rfl⟩ := List.mem_map.1 hx.1
 unfold allV at hs
 obtain ⟨y, hy, rfl⟩ := List.mem_map.1 hs
 have hg := (h f (List.mem_filter.1 hf).1).2 y (List.mem_filter.1 hy).1
 have h2 : y.2.data.toList.length = y.2.size := by rw [Lib.size_eq]
 have h3 := plainB_len _ y.2.data.toList (Nat.le_refl _)
 exact ⟨by simpa using hx.2, by omega⟩
theorem term_ok {fs : List Fl} (h : ∀ f ∈ fs, Gd f) : ∀ k, ∀ x ∈ term fs k, Wok x
 | 0, x, hx => by cases hx
 | 1, x, hx => by
  rcases List.mem_append.1 hx with hx | hx
  ·exact pick_ok h x hx
  ·exact pick_ok h x hx
 | 2, x, hx => pick_ok h x hx
 | 3, x, hx => pick_ok h x hx
 | 4, x, hx => nums_ok h x hx
 | _ + 5, x, hx => by cases hx
theorem termsTo_ok {fs : List Fl} (h : ∀ f ∈ fs, Gd f) : ∀ k, ∀ x ∈ termsTo fs k, Wok x
 | 0, x, hx => by cases hx
 | k + 1, x, hx => by
  rw [termsTo_succ] at hx
  rcases List.mem_append.1 hx with hx | hx
  ·exact termsTo_ok h k x hx
  ·exact term_ok h (k + 1) x hx
theorem terms_ok {fs : List Fl} (h : ∀ f ∈ fs, Gd f) (f : Int) : ∀ x ∈ terms fs f, Wok x := by
 intro x hx
 by_cases h0 : f = 0
 ·rw [h0, terms_zero] at hx
  rcases List.mem_append.1 hx with hx | hx
  ·exact termsTo_ok h 4 x hx
  ·exact pick_ok h x hx
 ·unfold terms at hx
  rw [if_neg h0] at hx
  split at hx
  ·exact term_ok h _ x hx
  ·cases hx
end Ix
end Go.Proofs.YtlakomilichhnaaGreatDoor
namespace Go.Proofs.YtlakomilichhnaaGreatDoor
open Go.RowKit
set_option maxRecDepth 100000
namespace Ix
open Rc
section
variable {w : World} {ops : Array Oper} {rest : List Oper} {o : Oper} {a : Act} {Q : Exit → Act → World → Prop} {M n : Nat} {f : By → Option Nat}
theorem smap_look_some {x : By} {q : Nat} (hp : SMap w M n f) (hf : f x = some q) (hw : x.length ≤ 9223372036854775807) (hg : o.guard = none) (m k : Operand) (hop : o.op = Op.lookup 207 m k true)
  (hm : a.eval m = .map (some M)) (hx : a.eval k = .string ⟨x.toArray⟩) (hK : wpList Tryz.prog ops Q rest (a.put o.dst (.tuple #[.int .i64 q, .bool true])) w) : wpList Tryz.prog ops Q (o :: rest) a w :=
 smap_look hp hw hg m k hop hm hx (by rw [hf]; exact hK)
theorem smap_look_none {x : By} (hp : SMap w M n f) (hf : f x = none) (hw : x.length ≤ 9223372036854775807) (hg : o.guard = none) (m k : Operand) (hop : o.op = Op.lookup 207 m k true)
  (hm : a.eval m = .map (some M)) (hx : a.eval k = .string ⟨x.toArray⟩) (hK : wpList Tryz.prog ops Q rest (a.put o.dst (.tuple #[.int .i64 0, .bool false])) w) : wpList Tryz.prog ops Q (o :: rest) a w :=
 smap_look hp hw hg m k hop hm hx (by rw [hf]; exact hK)
end
theorem PosS.shape {w : World} {B : Nat} {v : Value} {T : List PT} (h : PosS w B v T) {k : Nat} {t : PT} (hk : T[k]? = some t) : ∃ g cap, v = .slice (some ⟨g, 0, none⟩) T.length cap ∧ B ≤ g ∧ T.length ≤ cap ∧ cap ≤ maxLen ∧ g < w.heap.size ∧ (∃ cur, w.heap[g]? = some (.cells cur 100 (0, 0))) ∧ w.cell? ⟨g, k * 4 + 3, none⟩ = some (atV t) := by
 rcases h.own.2 with ⟨_, h1⟩ | ⟨g, cap, cur, rfl, hb, hg, h1, h2, _⟩
 ·have := List.eq_nil_of_length_eq_zero h1
  rw [this] at hk
  simp at hk
 ·obtain ⟨a, c, e, _, _, hx⟩ := Br.own_any encP_len h.own rfl
  injection e with e1 _ e2
  subst e1 e2
  rcases hx with h3 | ⟨g2, e3, _, _, hc⟩
  ·rw [h3] at hk; simp at hk
  ·injection e3 with e3
   injection e3 with e3
   subst e3
   exact ⟨g, cap, rfl, hb, h1, h2, (Array.getElem?_eq_some_iff.1 hg).1, ⟨cur, hg⟩, hc k 3 t _ hk (by omega) rfl⟩
def mks (k id : Int) (t : List By) (l : List By) : List Post := l.map (mkp k id t)
theorem mks_old {k id : Int} {t : List By} {j : Nat} {y : By} (hy : t[j]? = some y) (hm : y ∈ t.take j) {q : Nat} (hq : (firsts (t.take j))[q]? = some y) :
  mks k id (t.take (j + 1)) (firsts (t.take (j + 1))) = (mks k id (t.take j) (firsts (t.take j))).set q ⟨k, y, id, places (t.take j) y ++ [(j : Int)]⟩ := by
 unfold mks
 rw [firsts_take hy, if_pos hm, List.append_nil]
 have hql := (List.getElem?_eq_some_iff.1 hq).1
 apply List.ext_getElem?
 intro i
 by_cases e : i = q
 ·subst e
  rw [List.getElem?_map, hq, List.getElem?_set_self (by simpa using hql)]
  simp [mkp, places_take y hy]
 ·rw [List.getElem?_set_ne (fun e2 => e e2.symm), List.getElem?_map, List.getElem?_map]
  cases hi : (firsts (t.take j))[i]? with
  | none => rfl
  | some x =>
   have hne : ¬ y = x := fun e2 => by
    subst e2
    have hn := firsts_nodup (t.take j)
    have hil := (List.getElem?_eq_some_iff.1 hi).1
    have h1 := (List.getElem?_eq_some_iff.1 hi).2
    have h2 := (List.getElem?_eq_some_iff.1 hq).2
    exact e ((List.getElem_inj hn).1 (h1.trans h2.symm))
   simp [mkp, places_take x hy, hne]
theorem mks_new {k id : Int} {t : List By} {j : Nat} {y : By} (hy : t[j]? = some y) (hm : y ∉ t.take j) :
  mks k id (t.take (j + 1)) (firsts (t.take (j + 1))) = mks k id (t.take j) (firsts (t.take j)) ++ [⟨k, y, id, [(j : Int)]⟩] := by
 unfold mks
 rw [firsts_take hy, if_neg hm, List.map_append]
 congr 1
 ·apply List.map_congr_left
  intro x hx
  have hne : ¬ y = x := fun e => hm (by rw [e]; exact firsts_mem.1 hx)
  simp [mkp, places_take x hy, hne]
 ·have h0 : places (t.take j) y = [] := placesF_nil hm
  simp [mkp, places_take y hy, h0]
end Ix
theorem own_addr2 {w : World} {B e n : Nat} {a : Option Addr} {c : Nat} {xs : List Value} (h : w.ownsRow B e 1 (.slice a n c) n xs) (hn : 0 < n) : ∃ g, a = some ⟨g, 0, none⟩ := by
 rcases h.2 with ⟨_, h0⟩ | ⟨g, cap, cur, he, _⟩
 ·omega
 ·injection he with h1
  exact ⟨g, h1⟩
theorem own_sep {u v : Value} (h : ∀ g, u.ownBlock = some g → v.ownBlock ≠ some g) : u.ownBlock = none ∨ u.ownBlock ≠ v.ownBlock := by
 cases hv : u.ownBlock with
 | none => exact .inl rfl
 | some j => exact .inr (fun e => h j hv e.symm)
theorem own_cell_kept {wN w8 : World} {B g cap : Nat} {T : List Ix.PT} {o : Obj} {row : Option Nat} (h : Ix.OwnP wN B (.slice (some ⟨g, 0, none⟩) T.length cap) T) (hg : (wN.alloc o).grownBy w8 row) (hne : some g ≠ row) : Ix.OwnP w8 B (.slice (some ⟨g, 0, none⟩) T.length cap) T :=
 (h.alloc o).kept hg (.inr hne)
theorem own_shape2 {w : World} {B e s n : Nat} {v : Value} {xs : List Value} (h : w.ownsRow B e s v n xs) : ∃ a c, v = .slice a n c ∧ (∀ g, a = some g → v.ownBlock = some g.block) := by
 rcases h.2 with ⟨rfl, h0⟩ | ⟨g, cap, cur, rfl, _⟩
 ·exact ⟨none, 0, by rw [h0], fun g hg => by cases hg⟩
 ·exact ⟨_, cap, rfl, fun g hg => by injection hg with hg; rw [← hg]; rfl⟩
set_option maxHeartbeats 6400000 in
theorem ix_posts_c (r : Rc.Rd) (ra : Option Addr) (rc : Nat) (w : World) (hG : G w) (hr : Rc.FldA w ra rc r.fields) (hM : Ix.Mod r.fields) (hV : ∀ f ∈ r.fields, Rc.Gd f) :
  Calls Tryz.prog 119 #[.agg #[.int .i64 r.id, .int .i64 r.ver, .int .i64 r.kind, .string r.lang, .slice ra r.fields.length rc]] w fun e w' => (∃ v T, e = .returned v ∧ Ix.OwnP w' w.heap.size v T ∧ Ix.Ats w' T ∧ (∀ t ∈ T, ∀ g, t.2.1 = some g → w.heap.size ≤ g.block) ∧ T.map (·.1) = Ix.posts r ∧ List.length T ≤ 50000000 ∧ Below w.heap.size w w') := by
 obtain ⟨i0, hi0, hz0, hz1, hz2⟩ := info_parts info_int
 have HI := Lib.hid hi0; clear hi0
 obtain ⟨i1, hi1, hy0, hy1, hy2⟩ := info_parts info_post
 have HI1 := Lib.hid hi1; clear hi1
 obtain ⟨W, hW⟩ : ∃ W, w.alloc (.cells #[.int .i64 r.id, .int .i64 r.ver, .int .i64 r.kind, .string r.lang, .slice ra r.fields.length rc] 51) = W := ⟨_, rfl⟩
 have hB : Below w.heap.size w W := by rw [← hW]; exact Tx.newb _ _
 have hbB := hB.size
 have KR : Hid (W.heap[w.heap.size]? = some (.cells #[.int .i64 r.id, .int .i64 r.ver, .int .i64 r.kind, .string r.lang, .slice ra r.fields.length rc] 51 (0, 0))) := Lib.hid (by rw [← hW]; exact heap_alloc_new w _)
 have hmm := @run_makeMap Tryz.prog
 go_enter Tryz.func119, Tryz.ntmps119
 go_wp2
 clear hW
 go_loopw [3, 4] (fun v f wr => ∃ (k : Nat) (T : List Ix.PT), k ≤ 5 ∧ f = .int .i64 k ∧ Ix.PosS wr W.heap.size v T ∧ Hid (T.map (·.1) = Ix.postsTo r k) ∧ T.length ≤ 10000000 * k ∧ Below W.heap.size W wr) (fun _ f _ => 5 - (intOf f).toNat)
 case atStart => exact ⟨0, [], by omega, by go_num, Ix.PosS.nil _ _, Lib.hid rfl, by simp, Below.refl _ _⟩
 case round =>
  obtain ⟨k, T, hk, rfl, hPS, hE, hTl, hb⟩ := hrel
  have hbs := hb.size
  by_cases hlt : k < 5
  ·obtain ⟨ts, hts⟩ : ∃ ts, Ix.terms r.fields (k : Int) = ts := ⟨_, rfl⟩
   have htl := Ix.terms_len hM (k : Int)
   rw [hts] at htl
   have hk4 : (k : Int) ≤ 4 := by omega
   have HPT : Hid (Ix.postsTo r (k + 1) = Ix.postsTo r k ++ Ix.mks k r.id ts (Ix.firsts ts)) := Lib.hid (by rw [Ix.postsTo, hts]; rfl)
   obtain ⟨W1, hW1⟩ : ∃ W1, wr.alloc (.map #[] 0) = W1 := ⟨_, rfl⟩
   have hb1 : Below wr.heap.size wr W1 := by rw [← hW1]; exact Tx.newb _ _
   have hSM1 : Ix.SMap W1 wr.heap.size 0 (fun _ => none) := by rw [← hW1]; exact Ix.SMap.made wr
   have e0 : W1.cell? ⟨w.heap.size, 0, none⟩ = some (.int .i64 r.id) := (Tx.blk (Tx.blk_later (Tx.blk_later KR.out hb) hb1)).1 0
   have e1 : W1.cell? ⟨w.heap.size, 1, none⟩ = some (.int .i64 r.ver) := (Tx.blk (Tx.blk_later (Tx.blk_later KR.out hb) hb1)).1 1
   have e2 : W1.cell? ⟨w.heap.size, 2, none⟩ = some (.int .i64 r.kind) := (Tx.blk (Tx.blk_later (Tx.blk_later KR.out hb) hb1)).1 2
   have e3 : W1.cell? ⟨w.heap.size, 3, none⟩ = some (.string r.lang) := (Tx.blk (Tx.blk_later (Tx.blk_later KR.out hb) hb1)).1 3
   have e4 : W1.cell? ⟨w.heap.size, 4, none⟩ = some (.slice ra r.fields.length rc) := (Tx.blk (Tx.blk_later (Tx.blk_later KR.out hb) hb1)).1 4
   have CT : Hid (Calls Tryz.prog 62 #[.agg #[.int .i64 r.id, .int .i64 r.ver, .int .i64 r.kind, .string r.lang, .slice ra r.fields.length rc], .int .i64 (k : Int)] W1 fun e w' => ∃ v, e = .returned v ∧ Ix.OwnT w' W1.heap.size v ts ∧ Below W1.heap.size W1 w') := Lib.hid (by
    have hbb := Tx.step hB (Tx.step hb hb1)
    have h9 := ix_Terms_c r.fields ra rc r.id r.ver r.kind r.lang (k : Int) W1 (hG.below hbb) (hr.below hbb) hM hV
    rw [hts] at h9
    exact h9)
   have HTS := Lib.hid hts; clear hts
   have hs1 := hb1.size
   go_wp2_with (go_at_call 62; ((with_reducible refine CT.out.mono ?_); rintro e w2 ⟨v2, rfl, hown2, hb2⟩; obtain ⟨ta, tc, rfl, hta⟩ := own_shape2 hown2; have HO2 := Lib.hid (Ix.row_lower hown2 (Nat.le_trans hbs hs1)); clear hown2))
   have hSM2 : Ix.SMap w2 wr.heap.size 0 (fun _ => none) := hSM1.of_block (hb2.block _ hSM1.lt)
   have hPS2 := (hPS.below hb1).below hb2
   have hb3 := Tx.step hb (Tx.step hb1 hb2)
   obtain ⟨M, hMd⟩ : ∃ M, wr.heap.size = M := ⟨_, rfl⟩
   rw [hMd] at hSM2
   rw [hMd]
   have HMB : Hid (W.heap.size ≤ M) := Lib.hid (by rw [← hMd]; exact hbs)
   clear hW1 e0 e1 e2 e3 e4 CT hSM1 hMd
   obtain ⟨L0, hL0⟩ : ∃ L0, T.length = L0 := ⟨_, rfl⟩
   have HL0 := Lib.hid hL0
   rw [hL0] at hTl
   clear hL0
   go_loopw [3, 19] (fun v i wr => ∃ (j : Nat) (T2 : List Ix.PT) (n : Nat), j ≤ ts.length ∧ i = .int .i64 j ∧ Ix.PosS wr W.heap.size v T2 ∧ Hid (T2.map (·.1) = Ix.postsTo r k ++ Ix.mks k r.id (ts.take j) (Ix.firsts (ts.take j))) ∧ Hid (Ix.SMap wr M n (fun x => (Ix.posF (Ix.firsts (ts.take j)) x).map (L0 + ·))) ∧ n ≤ j ∧ Hid (wr.ownsRow W.heap.size 9 1 (.slice ta ts.length tc) ts.length (ts.map Tx.sv)) ∧ T2.length ≤ L0 + j ∧ Below W.heap.size W wr) (fun _ i _ => ts.length - (intOf i).toNat)
   case atStart => exact ⟨0, T, 0, by omega, by go_num, hPS2, Lib.hid (by rw [hE.out]; exact (List.append_nil _).symm), Lib.hid hSM2, by omega, HO2, by rw [HL0.out]; omega, hb3⟩
   case round =>
    obtain ⟨j, T2, n, hj, rfl, hPS4, hE4, hSM4, hnj, hO4, hTl4, hb4⟩ := hrel
    have hb4s := hb4.size
    obtain ⟨wm, hwm⟩ : ∃ wm, wm = wr := ⟨_, rfl⟩
    subst hwm
    by_cases hlt2 : j < ts.length
    ·obtain ⟨y, hy⟩ : ∃ y, ts[j]? = some y := ⟨_, List.getElem?_eq_getElem hlt2⟩
     obtain ⟨tb, rfl⟩ := own_addr2 hO4.out (by omega)
     have d0 : wm.cell? ⟨tb, j, none⟩ = some (.string ⟨y.toArray⟩) := (hO4.out.cellAt j (by omega)).trans (by rw [List.getElem?_map, hy]; rfl)
     have hyl : y.length ≤ 9223372036854775807 := by have := (Ix.terms_ok hV (k : Int) y (by rw [HTS.out]; exact List.mem_of_getElem? hy)).2; omega
     by_cases hm : y ∈ ts.take j
     ·have hmf := Ix.firsts_mem.2 hm
      obtain ⟨q, hpq, hfq⟩ := Ix.posF_some hmf
      have hmo := Ix.mks_old (k := (k : Int)) (id := r.id) hy hm hfq
      have hft := Ix.firsts_take hy
      rw [if_pos hm, List.append_nil] at hft
      obtain ⟨K, hKd⟩ : ∃ K, L0 + q = K := ⟨_, rfl⟩
      have hLp : (Ix.postsTo r k).length = L0 := by rw [← hE.out, List.length_map]; exact HL0.out
      have hpk : (T2.map (·.1))[K]? = some (Ix.mkp (k : Int) r.id (ts.take j) y) := by
       rw [hE4.out, ← hKd, List.getElem?_append_right (by omega), hLp, Nat.add_sub_cancel_left]
       unfold Ix.mks
       rw [List.getElem?_map, hfq]; rfl
      rw [List.getElem?_map, Option.map_eq_some_iff] at hpk
      obtain ⟨⟨p, pa, pc⟩, hTK, hpe⟩ := hpk
      have hpe' : p = ⟨(k : Int), y, r.id, Ix.places (ts.take j) y⟩ := hpe
      have hpl := Ix.places_len (ts.take j) y
      rw [List.length_take] at hpl
      obtain ⟨PL, hPL⟩ : ∃ PL, Ix.places (ts.take j) y = PL := ⟨_, rfl⟩
      rw [hPL] at hpe' hmo hpl
      subst hpe'
      have HPL : Hid (PL.length ≤ 10000000) := Lib.hid (by omega)
      have HTK := Lib.hid hTK
      have hPS3 := hPS4
      obtain ⟨T3, hT3⟩ : ∃ T3, T3 = T2 := ⟨_, rfl⟩
      subst hT3
      obtain ⟨g, cap, rfl, hBg, hTc, hcm, hgl, ⟨cur, hcur⟩, e3⟩ := hPS3.shape hTK
      have HGL := Lib.hid hgl
      have E3 : Hid (wm.cell? ⟨g, K * 4 + 3, none⟩ = some (.slice pa PL.length pc)) := Lib.hid (e3)
      have F3 := Lib.hid ((Tx.blk hcur).2.1 (K * 4 + 3))
      have hrow : wm.ownsRow W.heap.size 3 1 (.slice pa PL.length pc) PL.length (PL.map (Value.int .i64)) := hPS3.rows _ (List.mem_of_getElem? hTK)
      have HROW := Lib.hid hrow
      have HGN : Hid (some g ≠ Value.ownBlock (.slice pa PL.length pc)) := Lib.hid (fun e => Ix.own_ne2 hPS3.own hrow (by decide) g rfl e.symm)
      have HPS3 := Lib.hid hPS3
      have e3' := E3.out
      have hKT : (K : Int) < (T3.length : Int) := Int.ofNat_lt.2 (List.getElem?_eq_some_iff.1 hTK).1
      have hK0 : (0 : Int) ≤ (K : Int) := (by omega)
      clear hPS3 hrow hcur e3
      have HSM := hSM4
      have HON := hO4
      have HBL := Lib.hid hb4
      have HSMF : Hid ((fun x => (Ix.posF (Ix.firsts (ts.take j)) x).map (L0 + ·)) y = some K) := Lib.hid (by show (Ix.posF _ y).map _ = _; rw [hpq, ← hKd]; rfl)
      have HMO := Lib.hid hmo
      have HFT := Lib.hid hft
      have HKD := Lib.hid hKd
      have HLP := Lib.hid hLp
      clear hPL hmo hft hKd hLp hpq hfq hmf hTK hm hy hpe hpl hPS4
      go_wp2_with (first
       | (at_builtin; refine wpList_append_sl rfl _ _ 35 rfl W.heap.size 3 i0 _ 1 8 Tryz.underlying35 HI.out hz0 hz1 hz2 rfl (by decide) _ PL.length _ rfl (HROW.out.alloc _) (some ⟨_, 0, none⟩) 1 1 [.int .i64 (j : Int)] rfl rfl (fun h9 => by cases h9) (fun ad had => by cases had; exact Br.cells_new_at _ _ (by first | rfl | simp) _ _) (by simp [Value.oneCell']) (by unfold maxLen; have := HPL.out; omega) (by have := HPL.out; omega) (by simp; have := HBL.out.size; omega) ?_; intro v8 w8 hown8 hg8 hv8; obtain ⟨a8, c8, rfl, _⟩ := own_shape2 hown8; have e8 := (hg8.cell_far ⟨g, K * 4 + 3, none⟩ (by simp; have := HGL.out; omega) HGN.out).trans (cell_later (Tx.newb _ _) E3.out); have f8 := (hg8.frozen_far ⟨g, K * 4 + 3, none⟩ (by simp; have := HGL.out; omega) HGN.out).trans ((Tx.newb _ _).frozen (p := ⟨g, K * 4 + 3, none⟩) HGL.out |>.trans F3.out); have s8 := hg8.size; have g8 : g < w8.heap.size := (by have := HGL.out; simp at s8; omega))
       | (at_lookup; go_must (refine Ix.smap_look_some HSM.out HSMF.out hyl rfl _ _ rfl rfl rfl ?_)))
      have hupd := Ix.PosS.upd (i := (j : Int)) HPS3.out (Tx.newb _ _) HTK.out hg8 hown8 hv8
      rw [List.length_set] at hupd
      have hb8 : Below W.heap.size W (w8.setCell ⟨g, K * 4 + 3, none⟩ (.slice a8 (PL.length + 1) c8)) := ((HBL.out.alloc HBL.out.size _).grown hg8 (by simp; have := HBL.out.size; omega) (fun i hi => (HROW.out.lt i hi).1)).setCell (by show W.heap.size ≤ g; exact hBg) _
      have hown8P := own_cell_kept HPS3.out.own hg8 HGN.out
      have hO8 : (w8.setCell ⟨g, K * 4 + 3, none⟩ (.slice a8 (PL.length + 1) c8)).ownsRow W.heap.size 9 1 (.slice (some ⟨tb, 0, none⟩) ts.length tc) ts.length (ts.map Tx.sv) := by
       have h1 := HON.out.alloc (.cells #[.int .i64 (j : Int)] 3)
       have h2 := h1.kept hg8 (own_sep (Ix.own_ne2 HON.out HROW.out (by decide)))
       exact Ix.row_set h2 _ _ (fun b hb e => Ix.own_ne2 h2 hown8P (by decide) b hb (by rw [e]; rfl))
      have hM8 : (w8.setCell ⟨g, K * 4 + 3, none⟩ (.slice a8 (PL.length + 1) c8)).heap[M]? = wm.heap[M]? := by
       have h1 : M ≠ g := fun e => Ix.own_ne_map2 HPS3.out.own HSM.out (by rw [e]; rfl)
       exact (Below.heap_setCell w8 ⟨g, K * 4 + 3, none⟩ _ M h1).trans ((hg8.block M (by simp; have := HSM.out.lt; omega) (fun e => Ix.own_ne_map2 HROW.out HSM.out e.symm)).trans (hp_alloc_lt HSM.out.lt _))
      have hSM8 := HSM.out.of_block hM8
      have HE9 : Hid ((T3.set K ((⟨(k : Int), y, r.id, PL ++ [(j : Int)]⟩ : Ix.Post), a8, c8)).map (·.1) = Ix.postsTo r k ++ Ix.mks k r.id (ts.take (j + 1)) (Ix.firsts (ts.take (j + 1)))) := Lib.hid (by
       rw [List.map_set, hE4.out, HMO.out, List.set_append, if_neg (by have := HLP.out; have := HKD.out; omega), show K - (Ix.postsTo r k).length = q by have := HLP.out; have := HKD.out; omega])
      have HS9 : Hid (Ix.SMap (w8.setCell ⟨g, K * 4 + 3, none⟩ (.slice a8 (PL.length + 1) c8)) M n (fun x => (Ix.posF (Ix.firsts (ts.take (j + 1))) x).map (L0 + ·))) := Lib.hid (by rw [HFT.out]; exact hSM8)
      have hl9 : (T3.set K ((⟨(k : Int), y, r.id, PL ++ [(j : Int)]⟩ : Ix.Post), a8, c8)).length ≤ L0 + (j + 1) := by rw [List.length_set]; omega
      have HO9 := Lib.hid hO8
      go_roundw
      case rel => exact ⟨j + 1, _, n, hlt2, by go_num, hupd, HE9, HS9, by omega, HO9, hl9, hb8⟩
      case measure => simp [intOf]; omega
     ·have hmn := Ix.mks_new (k := (k : Int)) (id := r.id) hy hm
      have hft := Ix.firsts_take hy
      rw [if_neg hm] at hft
      have hnf : y ∉ Ix.firsts (ts.take j) := fun h9 => hm (Ix.firsts_mem.1 h9)
      have hpn := Ix.posF_none hnf
      have HSN : Hid (∀ x, Ix.posF (Ix.firsts (ts.take j) ++ [y]) x = if x = y then some (Ix.firsts (ts.take j)).length else Ix.posF (Ix.firsts (ts.take j)) x) := Lib.hid (fun x => Ix.posF_snoc x hnf)
      obtain ⟨PL, hPL0⟩ : ∃ PL : List Int, PL = [] := ⟨_, rfl⟩
      have hPLe := Lib.hid hPL0
      have HPL : Hid (PL.length ≤ 10000000) := Lib.hid (by rw [hPL0]; simp)
      have hLp : (Ix.postsTo r k).length = L0 := by rw [← hE.out, List.length_map]; exact HL0.out
      obtain ⟨K, hKd⟩ : ∃ K, T2.length = K := ⟨_, rfl⟩
      have HKD := Lib.hid hKd
      have HTL : Hid (T2.length ≤ 100000000) := Lib.hid (by omega)
      have hKf : K = L0 + (Ix.firsts (ts.take j)).length := by
       have := congrArg List.length hE4.out
       rw [List.length_map, List.length_append, hLp] at this
       unfold Ix.mks at this
       rw [List.length_map] at this
       omega
      have HKF := Lib.hid hKf
      have HMN := Lib.hid hmn
      have HFT := Lib.hid hft
      obtain ⟨a4, c4', rfl, _⟩ := own_shape2 hPS4.own
      have HPS0 := Lib.hid hPS4
      have HSM0 := hSM4
      have HNM : Hid (n < maxLen) := Lib.hid (by unfold maxLen; omega)
      have hlK : (T2.length : Int) = (K : Int) := by rw [hKd]
      have er : wm.cell? ⟨w.heap.size, 0, none⟩ = some (.int .i64 r.id) := (Tx.blk (Tx.blk_later KR.out hb4)).1 0
      have ERL : Hid (w.heap.size < wm.heap.size) := Lib.hid (Nat.lt_of_lt_of_le (Array.getElem?_eq_some_iff.1 KR.out).1 hb4s)
      have ERN : Hid (some w.heap.size ≠ some M) := Lib.hid (fun e => by injection e with e; have h1 := HMB.out; have h2 := (Array.getElem?_eq_some_iff.1 KR.out).1; omega)
      have HSMF : Hid ((fun x => (Ix.posF (Ix.firsts (ts.take j)) x).map (L0 + ·)) y = none) := Lib.hid (by show (Ix.posF _ y).map _ = _; rw [hpn]; rfl)
      clear hmn hft hnf hpn hPL0 hLp hKf hm hy hPS4 hKd
      go_wp2_with (first
       | (at_builtin; refine wpList_append_sl rfl _ _ 22 rfl W.heap.size 100 i1 _ 4 56 Tryz.underlying22 HI1.out hy0 hy1 hy2 rfl (by decide) _ T2.length _ rfl (HPSA.out.own.alloc _) (some ⟨_, 0, none⟩) 1 1 (Ix.encP ((⟨(k : Int), y, r.id, PL⟩ : Ix.Post), none, 0)) rfl rfl (fun h9 => by cases h9) (fun ad had => by cases had; rw [hPLe.out]; exact Br.cells_new_at _ _ (by first | rfl | simp) #[.int .i64 (k : Int), .string ⟨y.toArray⟩, .int .i64 r.id, .slice none 0 0] _) (Ix.p_one ((⟨(k : Int), y, r.id, PL⟩ : Ix.Post), none, 0)) (by unfold maxLen; have := HTL.out; omega) (by have := HTL.out; omega) (by simp; have := HBA.out.size; omega) ?_; intro v7 w7 hown7 hg7 hv7; obtain ⟨T3, hT3⟩ : ∃ T3, T3 = T2 ++ [((⟨(k : Int), y, r.id, PL⟩ : Ix.Post), none, 0)] := ⟨_, rfl⟩; have hPS3 : Ix.PosS w7 W.heap.size v7 T3 := (by rw [hT3]; exact Ix.PosS.push (HPSA.out.below (Tx.newb _ _)) hPLe.out hg7 (Ix.own_snoc hown7)); have hTK : T3[K]? = some ((⟨(k : Int), y, r.id, PL⟩ : Ix.Post), none, 0) := (by rw [hT3, ← HKD.out, List.getElem?_append_right (Nat.le_refl _), Nat.sub_self]; rfl); have HTK := Lib.hid hTK; have HT3 := Lib.hid hT3; obtain ⟨g, cap, rfl, hBg, hTc, hcm, hgl, ⟨cur, hcur⟩, e3⟩ := hPS3.shape hTK; have HGL := Lib.hid hgl; have E3 : Hid (w7.cell? ⟨g, K * 4 + 3, none⟩ = some (.slice none 0 0)) := Lib.hid (e3.trans (by rw [hPLe.out]; rfl)); have F3 := Lib.hid ((Tx.blk hcur).2.1 (K * 4 + 3)); have hrow : w7.ownsRow W.heap.size 3 1 (.slice none 0 0) PL.length (PL.map (Value.int .i64)) := (by rw [hPLe.out]; exact World.ownsRow_nil _ _ _ _); have HROW := Lib.hid hrow; have HGN : Hid (some g ≠ Value.ownBlock (.slice none 0 0)) := Lib.hid (fun e => Ix.own_ne2 hPS3.own hrow (by decide) g rfl e.symm); have HPS3 := Lib.hid hPS3; have e3' := E3.out; have hKT : (K : Int) < (T3.length : Int) := Int.ofNat_lt.2 (List.getElem?_eq_some_iff.1 hTK).1; have hK0 : (0 : Int) ≤ (K : Int) := (by omega); clear hPS3 hrow hcur e3; have hs7 := hg7.size; have HBL : Hid (Below W.heap.size W w7) := Lib.hid ((HBA.out.alloc HBA.out.size _).grown hg7 (by simp; have := HBA.out.size; omega) (fun i hi => (HPSA.out.own.lt i hi).1)); have HON : Hid (w7.ownsRow W.heap.size 9 1 (.slice (some ⟨tb, 0, none⟩) ts.length tc) ts.length (ts.map Tx.sv)) := Lib.hid ((HOA.out.alloc _).kept hg7 (own_sep (Ix.own_ne2 HOA.out HPSA.out.own (by decide)))); have hM7 : w7.heap[M]? = wa.heap[M]? := ((hg7.block M (by simp; have := HSMA.out.lt; omega) (fun e => Ix.own_ne_map2 HPSA.out.own HSMA.out e.symm)).trans (hp_alloc_lt HSMA.out.lt _)); have HSM := Lib.hid (HSMA.out.of_block hM7); clear hT3 hTK)
       | (at_builtin; refine wpList_append_sl rfl _ _ 35 rfl W.heap.size 3 i0 _ 1 8 Tryz.underlying35 HI.out hz0 hz1 hz2 rfl (by decide) _ PL.length _ rfl (HROW.out.alloc _) (some ⟨_, 0, none⟩) 1 1 [.int .i64 (j : Int)] rfl rfl (fun h9 => by cases h9) (fun ad had => by cases had; exact Br.cells_new_at _ _ (by first | rfl | simp) _ _) (by simp [Value.oneCell']) (by unfold maxLen; have := HPL.out; omega) (by have := HPL.out; omega) (by simp; have := HBL.out.size; omega) ?_; intro v8 w8 hown8 hg8 hv8; obtain ⟨a8, c8, rfl, _⟩ := own_shape2 hown8; have e8 := (hg8.cell_far ⟨g, K * 4 + 3, none⟩ (by simp; have := HGL.out; omega) HGN.out).trans (cell_later (Tx.newb _ _) E3.out); have f8 := (hg8.frozen_far ⟨g, K * 4 + 3, none⟩ (by simp; have := HGL.out; omega) HGN.out).trans ((Tx.newb _ _).frozen (p := ⟨g, K * 4 + 3, none⟩) HGL.out |>.trans F3.out); have s8 := hg8.size; have g8 : g < w8.heap.size := (by have := HGL.out; simp at s8; omega))
       | (at_mapUpdate; go_must (refine Ix.smap_put (k := K) HSM0.out HNM.out hyl rfl _ _ _ rfl rfl rfl rfl ?_); intro wa hma hga; have HSMA := Lib.hid hma; have hPSA := HPS0.out.kept hga (fun b hb e => Ix.own_ne_map2 HPS0.out.own HSM0.out (by rw [hb, ← e])) (fun t ht b hb e => Ix.own_ne_map2 (HPS0.out.rows t ht) HSM0.out (by rw [hb, ← e])); have HPSA := Lib.hid hPSA; have HOA := Lib.hid (hO4.out.kept hga (.inr (Ix.own_ne_map2 hO4.out HSM0.out))); have HBA := Lib.hid (hb4.grown hga hb4s (fun i hi => by injection hi with hi; rw [← hi]; exact HMB.out)); have era := (hga.cell_far ⟨w.heap.size, 0, none⟩ ERL.out ERN.out).trans er; clear hma hPSA)
       | (at_lookup; go_must (refine Ix.smap_look_none HSM0.out HSMF.out hyl rfl _ _ rfl rfl rfl ?_)))
      have hupd := Ix.PosS.upd (i := (j : Int)) HPS3.out (Tx.newb _ _) HTK.out hg8 hown8 hv8
      rw [List.length_set] at hupd
      have hb8 : Below W.heap.size W (w8.setCell ⟨g, K * 4 + 3, none⟩ (.slice a8 (PL.length + 1) c8)) := ((HBL.out.alloc HBL.out.size _).grown hg8 (by simp; have := HBL.out.size; omega) (fun i hi => (HROW.out.lt i hi).1)).setCell (by show W.heap.size ≤ g; exact hBg) _
      have hown8P := own_cell_kept HPS3.out.own hg8 HGN.out
      have hO8 : (w8.setCell ⟨g, K * 4 + 3, none⟩ (.slice a8 (PL.length + 1) c8)).ownsRow W.heap.size 9 1 (.slice (some ⟨tb, 0, none⟩) ts.length tc) ts.length (ts.map Tx.sv) := by
       have h1 := HON.out.alloc (.cells #[.int .i64 (j : Int)] 3)
       have h2 := h1.kept hg8 (own_sep (Ix.own_ne2 HON.out HROW.out (by decide)))
       exact Ix.row_set h2 _ _ (fun b hb e => Ix.own_ne2 h2 hown8P (by decide) b hb (by rw [e]; rfl))
      have hM8 : (w8.setCell ⟨g, K * 4 + 3, none⟩ (.slice a8 (PL.length + 1) c8)).heap[M]? = w7.heap[M]? := by
       have h1 : M ≠ g := fun e => Ix.own_ne_map2 HPS3.out.own HSM.out (by rw [e]; rfl)
       exact (Below.heap_setCell w8 ⟨g, K * 4 + 3, none⟩ _ M h1).trans ((hg8.block M (by simp; have := HSM.out.lt; omega) (fun e => Ix.own_ne_map2 HROW.out HSM.out e.symm)).trans (hp_alloc_lt HSM.out.lt _))
      have hSM8 := HSM.out.of_block hM8
      have HE9 : Hid ((T3.set K ((⟨(k : Int), y, r.id, PL ++ [(j : Int)]⟩ : Ix.Post), a8, c8)).map (·.1) = Ix.postsTo r k ++ Ix.mks k r.id (ts.take (j + 1)) (Ix.firsts (ts.take (j + 1)))) := Lib.hid (by
       rw [List.map_set, HT3.out, List.map_append, hE4.out, HMN.out, ← List.append_assoc, List.set_append, if_neg (by rw [← hE4.out, List.length_map, HKD.out]; omega), ← hE4.out, List.length_map, HKD.out, Nat.sub_self, hPLe.out]
       rfl)
      have HS9 : Hid (Ix.SMap (w8.setCell ⟨g, K * 4 + 3, none⟩ (.slice a8 (PL.length + 1) c8)) M (n + 1) (fun x => (Ix.posF (Ix.firsts (ts.take (j + 1))) x).map (L0 + ·))) := Lib.hid (by
       have hfe : (fun x => (Ix.posF (Ix.firsts (ts.take (j + 1))) x).map (L0 + ·)) = (fun z => if z = y then some K else (fun x => (Ix.posF (Ix.firsts (ts.take j)) x).map (L0 + ·)) z) := by
        funext x
        rw [HFT.out, HSN.out]
        by_cases e : x = y
        ·rw [if_pos e, if_pos e, HKF.out]; rfl
        ·rw [if_neg e, if_neg e]
       rw [hfe]
       exact hSM8)
      have hl9 : (T3.set K ((⟨(k : Int), y, r.id, PL ++ [(j : Int)]⟩ : Ix.Post), a8, c8)).length ≤ L0 + (j + 1) := by rw [List.length_set, HT3.out, List.length_append]; simp; omega
      have HO9 := Lib.hid hO8
      go_roundw
      case rel => exact ⟨j + 1, _, n + 1, hlt2, by go_num, hupd, HE9, HS9, by omega, HO9, hl9, hb8⟩
      case measure => simp [intOf]; omega
    ·obtain rfl : j = ts.length := by omega
     have hN := hE4.out
     rw [List.take_length, ← HPT.out] at hN
     have HN := Lib.hid hN; clear hN hE4
     have hl9 : T2.length ≤ 10000000 * (k + 1) := by omega
     go_wp2
     go_roundw
     case rel => exact ⟨k + 1, T2, hlt, by go_num, hPS4, HN, hl9, hb4⟩
     case measure => simp [intOf]; omega
  ·obtain rfl : k = 5 := by omega
   have hN := hE.out
   rw [Ix.posts_to] at hN
   have HN := Lib.hid hN; clear hN hE
   go_wp2
   go_ret
   refine ⟨_, T, rfl, Ix.row_lower hPS.own hbB, fun t ht => ?_, fun t ht g hg => ?_, HN.out, by omega, Tx.step hB hb⟩
   ·obtain ⟨a, c, e, hia, _⟩ := Ix.IA.of_own (hPS.rows t ht) rfl
    injection e with e1 _ e2
    rw [e1, e2]
    exact hia
   ·obtain ⟨a, c, e, _, hlo⟩ := Ix.IA.of_own (hPS.rows t ht) rfl
    injection e with e1 _ e2
    have := hlo g (by rw [← e1]; exact hg)
    omega
end Go.Proofs.YtlakomilichhnaaGreatDoor
namespace Go.Proofs.YtlakomilichhnaaGreatDoor
open Go.RowKit
set_option maxRecDepth 100000
namespace Ix
open Rc
structure NMap (w : World) (M n : Nat) (f : Int → Option Int) : Prop where
 d : ∃ D : DataW Unit, w.ownsMap Tryz.prog 3 intE M n D ∧ ∀ b, (Lit.int .i64 b).wf = true → Maps.has D (.int .i64 b) = (f b).isSome ∧ D.atKey (.int .i64 b) (.lit (.int .i64 0)) = .lit (.int .i64 ((f b).getD 0))
theorem nkey : Maps.Keyed Tryz.prog 3 := Maps.int_keyed Tryz.underlying3
theorem NMap.of_block {w w' : World} {M n : Nat} {f : Int → Option Int} (h : NMap w M n f) (hb : w'.heap[M]? = w.heap[M]?) : NMap w' M n f := by
 obtain ⟨D, ⟨es, clock, h1, h2⟩, h3⟩ := h.d
 exact ⟨D, ⟨es, clock, hb.trans h1, h2⟩, h3⟩
theorem NMap.lt {w : World} {M n : Nat} {f : Int → Option Int} (h : NMap w M n f) : M < w.heap.size := by
 obtain ⟨D, h1, _⟩ := h.d
 exact h1.lt
theorem NMap.obj {w : World} {M n : Nat} {f : Int → Option Int} (h : NMap w M n f) : ∃ es c, w.heap[M]? = some (.map es c) := by
 obtain ⟨D, ⟨es, clock, h1, _⟩, _⟩ := h.d
 exact ⟨es, clock, h1⟩
theorem NMap.made (w : World) : NMap (w.alloc (.map #[] 0)) w.heap.size 0 (fun _ => none) :=
 ⟨⟨.map [], World.ownsMap_made _ _ _ _, fun _ _ => ⟨rfl, rfl⟩⟩⟩
theorem NMap.look {w : World} {M n : Nat} {f : Int → Option Int} (h : NMap w M n f) {b r : Int} (hr : (f b).getD 0 = r) (hw : (Lit.int .i64 b).wf = true) : (Instr.lookup 133 (.map (some M)) (.int .i64 b) false).run Tryz.prog w = .ok (.int .i64 r) w := by
 obtain ⟨D, h1, h2⟩ := h.d
 obtain ⟨h3, h4⟩ := h2 b hw
 obtain ⟨v, ps, hrun, hv⟩ := h1.lookup nkey Tryz.underlying133 (szero w) (zd := .lit (.int .i64 0)) (zp := []) rfl (Maps.keyOf_int_mk Tryz.underlying3 hw)
 rw [h4, hr] at hv
 obtain rfl := intE_some hv
 exact hrun
section
variable {w : World} {ops : Array Oper} {rest : List Oper} {o : Oper} {a : Act} {Q : Exit → Act → World → Prop} {M n : Nat} {f : Int → Option Int}
theorem nmap_put {b r : Int} (hp : NMap w M n f) (hn : n < maxLen) (hw : (Lit.int .i64 b).wf = true) (hg : o.guard = none) (m x v : Operand) (hop : o.op = Op.mapUpdate 133 m x v)
  (hm : a.eval m = .map (some M)) (hx : a.eval x = .int .i64 b) (hv : a.eval v = .int .i64 r)
  (hK : ∀ w', NMap w' M (n + 1) (fun y => if y = b then some r else f y) → w.grownBy w' (some M) → wpList Tryz.prog ops Q rest (a.put o.dst undef) w') : wpList Tryz.prog ops Q (o :: rest) a w := by
 obtain ⟨D, h1, h2⟩ := hp.d
 refine wpList_mapUpdate_own w hg m x v _ hop 3 3 nkey Tryz.underlying133 intE M n D hm h1 hn _ _ _ hx hv (Maps.keyOf_int_mk Tryz.underlying3 hw) (.lit (.int .i64 r)) [] rfl fun w' h3 h4 => ?_
 refine hK w' ⟨⟨_, h3, fun y hy => ?_⟩⟩ h4
 have ht := (h1.tidy nkey).isMap
 by_cases hyb : y = b
 ·subst hyb
  have hk : WideAt.IsKeyLit (Lit.int .i64 y) := trivial
  rw [if_pos rfl, Maps.has_put_same ht hk, Maps.atKey_put_same ht hk]
  exact ⟨rfl, rfl⟩
 ·have hne : Lit.int .i64 y ≠ Lit.int .i64 b := fun e => hyb (by injection e)
  rw [if_neg hyb, Maps.has_put_other hne, Maps.atKey_put_other hne]
  exact h2 y hy
end
theorem own_ne_nmap {w : World} {B e size n M m : Nat} {v : Value} {xs : List Value} {f : Int → Option Int} (h : w.ownsRow B e size v n xs) (hM : NMap w M m f) : v.ownBlock ≠ some M := fun e => by
 obtain ⟨es, cl, hM⟩ := hM.obj
 rcases h.2 with ⟨rfl, _⟩ | ⟨b, cap, cur, rfl, _, hb, _⟩
 ·cases e
 ·have e' : b = M := by injection e
  subst e'
  rw [hM] at hb
  cases hb
theorem chs_ids {l : List Rd} : ∀ {k : Nat} {q : Rd}, q ∈ l.take k → 1 ≤ q.id → q.id ∈ (chs l k).map (·.id)
 | 0, q, h, _ => by simp at h
 | k + 1, q, h, h1 => by
  cases hk : l[k]? with
  | none =>
   rw [List.take_of_length_le (by rw [List.getElem?_eq_none_iff] at hk; omega)] at h
   rw [chs, hk]
   exact chs_ids (k := k) (by rw [List.take_of_length_le (by rw [List.getElem?_eq_none_iff] at hk; omega)]; exact h) h1
  | some r =>
   rw [take_snoc hk, List.mem_append] at h
   rw [chs_succ hk]
   rcases h with h | h
   ·have ih := chs_ids h h1
    split
    ·exact ih
    ·rw [List.map_append]; exact List.mem_append_left _ ih
   ·rw [List.mem_singleton] at h
    subst h
    split
    ·rename_i hc
     rcases hc with hc | hc
     ·omega
     ·obtain ⟨p, hp, e⟩ := met_iff.1 hc
      rw [← e]
      exact chs_ids hp (by omega)
    ·rw [List.map_append]; exact List.mem_append_right _ (by simp)
theorem chs_met {l : List Rd} {k : Nat} {r : Rd} (h1 : 1 ≤ r.id) : met l k r = true ↔ r.id ∈ (chs l k).map (·.id) := by
 rw [met_iff]
 constructor
 ·rintro ⟨q, hq, e⟩
  rw [← e]
  exact chs_ids hq (by omega)
 ·intro h
  obtain ⟨q, hq, e⟩ := List.mem_map.1 h
  exact ⟨q, (chs_mem hq).2, e⟩
structure BuS (w : World) (B : Nat) (v : Value) (T : List PT) : Prop where
 own : OwnP w B v T
 ats : Ats w T
 sep : ∀ t ∈ T, t.1.at_ ≠ [] → ∀ g, t.2.1 = some g → v.ownBlock ≠ some g.block
theorem BuS.below {w w' : World} {B : Nat} {v : Value} {T : List PT} (h : BuS w B v T) (hb : Below w.heap.size w w') : BuS w' B v T := ⟨own_below h.own hb, h.ats.below hb, h.sep⟩
theorem BuS.app {w w1 w' : World} {B : Nat} {v v' : Value} {T T2 : List PT} (h : BuS w B v T) (hb : Below w.heap.size w w1) (h2 : Ats w1 T2) (hf : ∀ t ∈ T2, ∀ g, t.2.1 = some g → w.heap.size ≤ g.block) (hg : w1.grownBy w' v.ownBlock) (hown : w'.ownsRow B 100 4 v' (T.length + T2.length) (T.flatMap encP ++ T2.flatMap encP)) (hv : v'.ownBlock = v.ownBlock ∨ v'.ownBlock = some w1.heap.size) : BuS w' B v' (T ++ T2) := by
 have h' := h.below hb
 have hs2 : ∀ t ∈ T2, t.1.at_ ≠ [] → ∀ g, t.2.1 = some g → v.ownBlock ≠ some g.block := fun t ht _ g hg e => by
  have h3 := (h.own.lt _ e).2
  have h4 := hf t ht g hg
  omega
 have hsA : ∀ t ∈ T ++ T2, t.1.at_ ≠ [] → ∀ g, t.2.1 = some g → v.ownBlock ≠ some g.block ∧ g.block < w1.heap.size := fun t ht hn g hg => by
  rcases List.mem_append.1 ht with ht | ht
  ·exact ⟨h.sep t ht hn g hg, (h'.ats t ht).lt hn g hg⟩
  ·exact ⟨hs2 t ht hn g hg, (h2 t ht).lt hn g hg⟩
 have hat1 : Ats w1 (T ++ T2) := fun t ht => by
  rcases List.mem_append.1 ht with ht | ht
  ·exact h'.ats t ht
  ·exact h2 t ht
 refine ⟨by unfold OwnP; rw [List.length_append, List.flatMap_append]; exact hown, fun t ht => ?_, fun t ht hn g hg2 e => ?_⟩
 ·exact (hat1 t ht).agree hg.size (fun hn g hg2 => hg.block _ (hsA t ht hn g hg2).2 (fun e => (hsA t ht hn g hg2).1 e.symm))
 ·rcases hv with hv | hv
  ·rw [hv] at e; exact (hsA t ht hn g hg2).1 e
  ·rw [hv] at e
   injection e with e
   have := (hsA t ht hn g hg2).2
   omega
theorem BuS.sorted {w w' : World} {B : Nat} {v : Value} {T S : List PT} (h : BuS w B v T) (hp : S.Perm T) (hg : w.grownBy w' v.ownBlock) (hown : OwnP w' B v S) : BuS w' B v S :=
 ⟨hown, fun t ht => (h.ats t (hp.mem_iff.1 ht)).agree hg.size (fun hn g hg2 => hg.block _ ((h.ats t (hp.mem_iff.1 ht)).lt hn g hg2) (fun e => h.sep t (hp.mem_iff.1 ht) hn g hg2 e.symm)), fun t ht => h.sep t (hp.mem_iff.1 ht)⟩
theorem BuS.kept {w w' : World} {B X : Nat} {v : Value} {T : List PT} (h : BuS w B v T) (hX : X < B) (hat : ∀ t ∈ T, t.1.at_ ≠ [] → ∀ g, t.2.1 = some g → g.block ≠ X) (hb : ∀ k, k ≠ X → w'.heap[k]? = w.heap[k]?) (hs : w.heap.size ≤ w'.heap.size) : BuS w' B v T := by
 refine ⟨⟨h.own.1, ?_⟩, fun t ht => (h.ats t ht).agree hs (fun hn g hg => hb _ (hat t ht hn g hg)), h.sep⟩
 rcases h.own.2 with h1 | ⟨g, cap, cur, rfl, h2, h3, h4⟩
 ·exact .inl h1
 ·exact .inr ⟨g, cap, cur, rfl, h2, (hb g (by omega)).trans h3, h4⟩
end Ix
end Go.Proofs.YtlakomilichhnaaGreatDoor
namespace Go.Proofs.YtlakomilichhnaaGreatDoor
set_option maxRecDepth 100000
namespace Ix
open Rc
theorem build_mem {rs : List Rd} {p : Post} (h : p ∈ build rs) : ∃ r ∈ rs, 1 ≤ r.id ∧ p ∈ posts r := by
 unfold build at h
 rw [bld_eq] at h
 have h2 := (fold_perm _ _).mem_iff.1 h
 rw [List.nil_append] at h2
 obtain ⟨r, hr, hp⟩ := List.mem_flatMap.1 h2
 exact ⟨r, List.mem_of_mem_take (chs_mem hr).2, (chs_mem hr).1, hp⟩
theorem places_lt {t : List By} {x : By} {n : Int} (h : n ∈ places t x) : 0 ≤ n ∧ n < (t.length : Int) := by
 obtain ⟨j, hj, hx⟩ := placesF_mem.1 h
 have := (List.getElem?_eq_some_iff.1 hx).1
 omega
def Dist (rs : List Rd) : Prop := ∀ r ∈ rs, ∀ q ∈ rs, r.id = q.id → r = q
theorem phr_mem {x : List Post} {f n : Int} {s : By} {l : List By} : n ∈ phrase x f (s :: l) ↔ ∃ p ∈ x, p.fld = f ∧ p.word = s ∧ p.id = n ∧ ∃ m ∈ p.at_, folF x f p.id m 1 l = true := by
 unfold phrase phr
 rw [Cp.puts_mem]
 simp only [List.mem_flatMap, List.mem_map, List.mem_filter, Bool.and_eq_true, decide_eq_true_eq, beq_iff_eq]
 constructor
 ·rintro ⟨p, ⟨hp, h1, h2⟩, m, ⟨hm, hf⟩, e⟩
  exact ⟨p, hp, h1, h2, e, m, hm, hf⟩
 ·rintro ⟨p, hp, h1, h2, e, m, hm, hf⟩
  exact ⟨p, ⟨hp, h1, h2⟩, m, ⟨hm, hf⟩, e⟩
end Ix
end Go.Proofs.YtlakomilichhnaaGreatDoor
namespace Go.Proofs.YtlakomilichhnaaGreatDoor
open Go.RowKit
set_option maxRecDepth 100000
namespace Vm
open Go.Maps (Keyed)
abbrev rawE : Value → Option (DataW Value × List MemPlace) := fun v => some (.held v, [])
open Classical in
noncomputable def upd (f : Lit → Option Value) (kl : Lit) (u : Value) : Lit → Option Value := fun y => if y = kl then some u else f y
theorem upd_same (f : Lit → Option Value) (kl : Lit) (u : Value) : upd f kl u kl = some u := by unfold upd; rw [if_pos rfl]
theorem upd_other (f : Lit → Option Value) {kl y : Lit} (u : Value) (h : y ≠ kl) : upd f kl u y = f y := by unfold upd; rw [if_neg h]
def Reads (D : DataW Value) (f : Lit → Option Value) : Prop := ∀ kl, Maps.has D kl = (f kl).isSome ∧ ∀ z, D.atKey kl z = (match f kl with | some v => .held v | none => z)
structure Map (k : TypeId) (w : World) (M n : Nat) (f : Lit → Option Value) : Prop where
 d : ∃ D : DataW Value, w.ownsMap Tryz.prog k rawE M n D ∧ Reads D f
variable {k : TypeId} {w w' : World} {M n r cnt : Nat} {f : Lit → Option Value} {left : Lit → Bool}
theorem Map.of_block (h : Map k w M n f) (hb : w'.heap[M]? = w.heap[M]?) : Map k w' M n f := by
 obtain ⟨D, ⟨es, clock, h1, h2⟩, h3⟩ := h.d
 exact ⟨D, ⟨es, clock, hb.trans h1, h2⟩, h3⟩
theorem Map.lt (h : Map k w M n f) : M < w.heap.size := by
 obtain ⟨D, h1, _⟩ := h.d
 exact h1.lt
theorem Map.obj (h : Map k w M n f) : ∃ es c, w.heap[M]? = some (.map es c) := by
 obtain ⟨D, ⟨es, clock, h1, _⟩, _⟩ := h.d
 exact ⟨es, clock, h1⟩
theorem Map.mono (h : Map k w M n f) {m : Nat} (hm : n ≤ m) : Map k w M m f := by
 obtain ⟨D, h1, h2⟩ := h.d
 exact ⟨D, h1.mono hm, h2⟩
theorem Map.kept (h : Map k w M n f) {row : Option Nat} (hg : w.grownBy w' row) (hne : some M ≠ row) : Map k w' M n f := h.of_block (hg.block M h.lt hne)
theorem Map.below (h : Map k w M n f) (hb : Below w.heap.size w w') : Map k w' M n f := h.of_block (hb.block M h.lt)
theorem Map.made (k : TypeId) (w : World) : Map k (w.alloc (.map #[] 0)) w.heap.size 0 (fun _ => none) :=
 ⟨⟨.map [], World.ownsMap_made _ _ _ _, fun _ => ⟨rfl, fun _ => rfl⟩⟩⟩
theorem Map.ne_row {B e size m : Nat} {v : Value} {xs : List Value} (hM : Map k w M n f) (h : w.ownsRow B e size v m xs) : v.ownBlock ≠ some M := fun e => by
 obtain ⟨es, cl, hM⟩ := hM.obj
 rcases h.2 with ⟨rfl, _⟩ | ⟨b, cap, cur, rfl, _, hb, _⟩
 ·cases e
 ·have e' : b = M := by injection e
  subst e'
  rw [hM] at hb
  cases hb
theorem Map.look (h : Map k w M n f) (K : Keyed Tryz.prog k) {t e : TypeId} (ht : Tryz.prog.underlying t = some (.map k e)) {z : Value} (hz : (zeroValue e).run Tryz.prog w = .ok z w) {key : Value} {kl : Lit} (hkey : keyOf Tryz.prog k key = some kl) {v : Value} (hv : (f kl).getD z = v) :
  (Instr.lookup t (.map (some M)) key false).run Tryz.prog w = .ok v w := by
 obtain ⟨D, h1, h2⟩ := h.d
 obtain ⟨u, ps, hrun, hu⟩ := h1.lookup K ht hz (zd := .held z) (zp := []) rfl hkey
 rw [(h2 kl).2] at hu
 have e : u = v := by
  injection hu with hu
  injection hu with hu
  cases hf : f kl with
  | none => rw [hf] at hu hv; injection hu with hu; rw [hu]; exact hv
  | some x => rw [hf] at hu hv; injection hu with hu; rw [hu]; exact hv
 rw [hrun, e]
section
variable {ops : Array Oper} {rest : List Oper} {o : Oper} {a : Act} {Q : Exit → Act → World → Prop}
theorem Reads.put {D : DataW Value} (h : Reads D f) (ht : Maps.IsMap D) {kl : Lit} (hk : WideAt.IsKeyLit kl) (v : Value) : Reads (D.put kl (.held v)) (upd f kl v) := fun y => by
 by_cases hy : y = kl
 ·subst hy
  rw [upd_same, Maps.has_put_same ht hk]
  exact ⟨rfl, fun z => Maps.atKey_put_same ht hk _ _⟩
 ·rw [upd_other _ _ hy, Maps.has_put_other hy]
  exact ⟨(h y).1, fun z => by rw [Maps.atKey_put_other hy]; exact (h y).2 z⟩
theorem put_step (hp : Map k w M n f) (hn : n < maxLen) (K : Keyed Tryz.prog k) {key : Value} {kl : Lit} (hkey : keyOf Tryz.prog k key = some kl) (hkl : WideAt.IsKeyLit kl) (hg : o.guard = none) (m x v : Operand) {t e : TypeId} (hop : o.op = Op.mapUpdate t m x v)
  (ht : Tryz.prog.underlying t = some (.map k e)) (hm : a.eval m = .map (some M)) (hx : a.eval x = key) {u : Value} (hv : a.eval v = u)
  (hK : ∀ w', Map k w' M (n + 1) (upd f kl u) → w.grownBy w' (some M) → wpList Tryz.prog ops Q rest (a.put o.dst undef) w') : wpList Tryz.prog ops Q (o :: rest) a w := by
 obtain ⟨D, h1, h2⟩ := hp.d
 refine wpList_mapUpdate_own w hg m x v _ hop k e K ht rawE M n D hm h1 hn _ _ _ hx hv hkey (.held u) [] rfl fun w' h3 h4 => ?_
 exact hK w' ⟨⟨_, h3, h2.put (h1.tidy K).isMap hkl u⟩⟩ h4
structure Rng (k : TypeId) (w : World) (M r n : Nat) (f : Lit → Option Value) (left : Lit → Bool) (cnt : Nat) : Prop where
 d : ∃ D : DataW Value, w.ranges Tryz.prog k rawE M r n D left cnt ∧ Reads D f
theorem Rng.map (h : Rng k w M r n f left cnt) : Map k w M n f := by
 obtain ⟨D, h1, h2⟩ := h.d
 exact ⟨D, h1.owns, h2⟩
theorem Rng.kept (h : Rng k w M r n f left cnt) {row : Option Nat} (hg : w.grownBy w' row) (h1 : some M ≠ row) (h2 : some r ≠ row) : Rng k w' M r n f left cnt := by
 obtain ⟨D, h3, h4⟩ := h.d
 exact ⟨D, h3.kept hg h1 h2, h4⟩
theorem Rng.below (h : Rng k w M r n f left cnt) (hb : Below w.heap.size w w') : Rng k w' M r n f left cnt :=
 h.kept (row := none) ⟨hb.os, hb.tape, hb.output, hb.size, fun k hk _ => hb.block k hk⟩ (by simp) (by simp)
theorem Rng.left_eq (h : Rng k w M r n f left cnt) : w.rangeLeft M r = cnt := by
 obtain ⟨D, h3, _⟩ := h.d
 exact h3.left_eq
theorem Rng.ne_row {B e size m : Nat} {v : Value} {xs : List Value} (hR : Rng k w M r n f left cnt) (h : w.ownsRow B e size v m xs) : v.ownBlock ≠ some r := fun e => by
 obtain ⟨D, ⟨es, clock, since, seen, c0, _, _, _, _, hr, _⟩, _⟩ := hR.d
 rcases h.2 with ⟨rfl, _⟩ | ⟨b, cap, cur, rfl, _, hb, _⟩
 ·cases e
 ·have e' : b = r := by injection e
  subst e'
  rw [hr] at hb
  cases hb
theorem range_step (hp : Map k w M n f) (K : Keyed Tryz.prog k) (hg : o.guard = none) (m : Operand) {t e : TypeId} (hop : o.op = Op.range t m) (ht : Tryz.prog.underlying t = some (.map k e)) (hm : a.eval m = .map (some M))
  (hK : ∀ w' cnt, cnt ≤ n → Rng k w' M w.heap.size n f (fun kl => (f kl).isSome) cnt → w.grownBy w' none → w'.heap.size = w.heap.size + 1 → wpList Tryz.prog ops Q rest (a.put o.dst (.pointer (some ⟨w.heap.size, 0, none⟩))) w') : wpList Tryz.prog ops Q (o :: rest) a w := by
 obtain ⟨D, h1, h2⟩ := hp.d
 refine wpList_range_own w hg m t hop k e K ht rawE M n D hm h1 fun w' h3 h4 h5 => ?_
 have e : Maps.has D = fun kl => (f kl).isSome := by funext kl; exact (h2 kl).1
 rw [e] at h3
 refine hK w' (Maps.size D) ?_ ⟨D, h3, h2⟩ h4 h5
 obtain ⟨es, clock, _, _, hs, rfl⟩ := h1
 rw [Maps.size_eq, length_sorted]
 simpa using hs
theorem next_step (h : Rng 3 w M r n f left cnt) (hg : o.guard = none) (it : Operand) (hop : o.op = Op.next it false) (hit : a.eval it = .pointer (some ⟨r, 0, none⟩))
  (hDone : cnt = 0 → (∀ kl, left kl = false) → wpList Tryz.prog ops Q rest (a.put o.dst (.tuple #[.bool false])) w)
  (hMore : ∀ (x : Int) (v : Value) (w' : World) (cnt' : Nat), (Lit.int .i64 x).wf = true → left (.int .i64 x) = true → f (.int .i64 x) = some v → Rng 3 w' M r n f (fun z => left z && !z.sameKey (.int .i64 x)) cnt' → cnt' < cnt →
   w.grownBy w' (some r) → w'.heap.size = w.heap.size → (Instr.entry (.pointer (some ⟨r, 0, none⟩))).run Tryz.prog w' = .ok (.tuple #[.int .i64 x, v]) w' → wpList Tryz.prog ops Q rest (a.put o.dst (.tuple #[.bool true, .int .i64 x, v])) w') :
  wpList Tryz.prog ops Q (o :: rest) a w := by
 obtain ⟨D, h1, h2⟩ := h.d
 refine wpList_next_ranges (α := Int) (β := Value) w hg it hop 3 Ix.nkey rawE (Value.int .i64) (fun v => v) (fun key kl hkey => by obtain ⟨x, rfl, _⟩ := Maps.keyOf_int_inv Tryz.underlying3 hkey; exact ⟨x, rfl⟩) (fun v y hv => ⟨v, rfl⟩) M r n D left cnt hit h1 hDone ?_
 intro x v kl y w' cnt' hkey hlk hv hat hrg hlt hgr hsz hen
 obtain ⟨x', ex, rfl, hwx⟩ := Maps.keyOf_int_inv Tryz.underlying3 hkey
 cases ex
 have hv' : y = (.held v, []) := by injection hv with hv; exact hv.symm
 subst hv'
 refine hMore x v w' cnt' hwx hlk ?_ ⟨D, hrg, h2⟩ hlt hgr hsz hen
 have e := hat .nil
 rw [(h2 _).2] at e
 cases hf : f (.int .i64 x) with
 | none => rw [hf] at e; cases e
 | some u => rw [hf] at e; injection e with e; rw [e]
end
end Vm
end Go.Proofs.YtlakomilichhnaaGreatDoor
