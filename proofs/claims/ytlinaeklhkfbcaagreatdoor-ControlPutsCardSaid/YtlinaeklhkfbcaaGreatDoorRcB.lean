/- Fields in memory; what the program's functions of layer 7 return. -/
import Derived.Test.YtlinaeklhkfbcaaGreatDoorSl
import Derived.Test.YtlinaeklhkfbcaaGreatDoorRcA
namespace Go.Proofs.YtlinaeklhkfbcaaGreatDoor
open Go.RowKit
set_option maxRecDepth 100000

namespace Rc
/-- The slice (its address, its capacity) holds these subfields. -/
structure SubA (w : World) (a : Option Addr) (c : Nat) (xs : List (UInt8 × ByteArray)) : Prop where
  cap : xs.length ≤ c
  max : c ≤ maxLen
  at_ : ∃ b o, (xs ≠ [] → a = some ⟨b, o, none⟩ ∧ b < w.heap.size) ∧ ∀ (j : Nat) x, xs[j]? = some x → w.cell? ⟨b, o + j * 2, none⟩ = some (.int .u8 x.1.toNat) ∧ w.cell? ⟨b, o + j * 2 + 1, none⟩ = some (.string x.2)
theorem SubA.below {w w' : World} {a : Option Addr} {c : Nat} {xs : List (UInt8 × ByteArray)} (h : SubA w a c xs) (hb : Below w.heap.size w w') : SubA w' a c xs := by
  obtain ⟨b, o, h1, h2⟩ := h.at_
  exact ⟨h.cap, h.max, b, o, fun hn => ⟨(h1 hn).1, Nat.lt_of_lt_of_le (h1 hn).2 hb.size⟩, fun j x hx => ⟨cell_later hb (h2 j x hx).1, cell_later hb (h2 j x hx).2⟩⟩
/-- The slice holds these fields. -/
structure FldA (w : World) (a : Option Addr) (c : Nat) (fs : List Fl) : Prop where
  cap : fs.length ≤ c
  max : c ≤ maxLen
  at_ : ∃ b o, (fs ≠ [] → a = some ⟨b, o, none⟩ ∧ b < w.heap.size) ∧ ∀ (j : Nat) f, fs[j]? = some f → w.cell? ⟨b, o + j * 4, none⟩ = some (.string f.tag) ∧ w.cell? ⟨b, o + j * 4 + 1, none⟩ = some (.string f.ind) ∧
    (∃ sa sc, w.cell? ⟨b, o + j * 4 + 2, none⟩ = some (.slice sa f.subs.length sc) ∧ SubA w sa sc f.subs) ∧ w.cell? ⟨b, o + j * 4 + 3, none⟩ = some (.int .i64 f.auth)
theorem FldA.below {w w' : World} {a : Option Addr} {c : Nat} {fs : List Fl} (h : FldA w a c fs) (hb : Below w.heap.size w w') : FldA w' a c fs := by
  obtain ⟨b, o, h1, h2⟩ := h.at_
  refine ⟨h.cap, h.max, b, o, fun hn => ⟨(h1 hn).1, Nat.lt_of_lt_of_le (h1 hn).2 hb.size⟩, fun j x hx => ?_⟩
  obtain ⟨c0, c1, ⟨sa, sc, c2, hs⟩, c3⟩ := h2 j x hx
  exact ⟨cell_later hb c0, cell_later hb c1, ⟨sa, sc, cell_later hb c2, hs.below hb⟩, cell_later hb c3⟩
theorem SubA.get {w : World} {a : Option Addr} {c : Nat} {xs : List (UInt8 × ByteArray)} (h : SubA w a c xs) {k : Nat} {x : UInt8 × ByteArray} (hk : xs[k]? = some x) :
    ∃ b o, a = some ⟨b, o, none⟩ ∧ b < w.heap.size ∧ w.cell? ⟨b, o + k * 2, none⟩ = some (.int .u8 x.1.toNat) ∧ w.cell? ⟨b, o + k * 2 + 1, none⟩ = some (.string x.2) := by
  obtain ⟨b, o, h1, h2⟩ := h.at_
  have hne : xs ≠ [] := by intro h0; subst h0; simp at hk
  exact ⟨b, o, (h1 hne).1, (h1 hne).2, (h2 k x hk).1, (h2 k x hk).2⟩
theorem FldA.get {w : World} {a : Option Addr} {c : Nat} {xs : List Fl} (h : FldA w a c xs) {k : Nat} {f : Fl} (hk : xs[k]? = some f) :
    ∃ b o sa sc, a = some ⟨b, o, none⟩ ∧ b < w.heap.size ∧ w.cell? ⟨b, o + k * 4, none⟩ = some (.string f.tag) ∧ w.cell? ⟨b, o + k * 4 + 1, none⟩ = some (.string f.ind) ∧
      w.cell? ⟨b, o + k * 4 + 2, none⟩ = some (.slice sa f.subs.length sc) ∧ w.cell? ⟨b, o + k * 4 + 3, none⟩ = some (.int .i64 f.auth) ∧ SubA w sa sc f.subs := by
  obtain ⟨b, o, h1, h2⟩ := h.at_
  have hne : xs ≠ [] := by intro h0; subst h0; simp at hk
  obtain ⟨c0, c1, ⟨sa, sc, c2, hs⟩, c3⟩ := h2 k f hk
  exact ⟨b, o, sa, sc, (h1 hne).1, (h1 hne).2, c0, c1, c2, c3, hs⟩
theorem allV_take {xs : List (UInt8 × ByteArray)} {k : Nat} {x : UInt8 × ByteArray} (codes : By) (h : xs[k]? = some x) : allV (xs.take (k + 1)) codes = allV (xs.take k) codes ++ (if hasCode codes x.1 = true then [x.2] else []) := by
  unfold allV
  rw [List.take_add_one, h]
  simp only [Option.toList, List.filter_append, List.map_append]
  congr 1
  by_cases hc : hasCode codes x.1 = true
  · simp [hc]
  · simp [hc]
theorem indexByte_mem : ∀ (l : By) (c : UInt8), 0 ≤ Lib.indexByte l c ↔ c ∈ l
  | [], c => by simp [Lib.indexByte]
  | b :: l, c => by
    have ih := indexByte_mem l c
    have hg := Lib.indexByte_ge l c
    unfold Lib.indexByte
    by_cases hb : b = c
    · subst hb; simp
    · have hb' : (b == c) = false := by simpa using hb
      rw [hb', List.mem_cons]
      simp only [Bool.false_eq_true, if_false]
      by_cases h1 : Lib.indexByte l c = -1
      · rw [h1] at ih ⊢
        simp only [beq_self_eq_true, if_true]
        constructor
        · intro h; omega
        · rintro (h | h)
          · exact absurd h.symm hb
          · have := ih.2 h; omega
      · have h2 : (Lib.indexByte l c == -1) = false := by simpa using h1
        rw [h2]
        simp only [Bool.false_eq_true, if_false]
        constructor
        · intro _; exact .inr (ih.1 (by omega))
        · rintro (h | h)
          · exact absurd h.symm hb
          · have := ih.2 h; omega
theorem code_in {codes : By} {c : UInt8} (h : codes ≠ []) : 0 ≤ Lib.indexByte codes c ↔ hasCode codes c = true := by
  rw [indexByte_mem]
  unfold hasCode
  have : codes.isEmpty = false := by simpa using h
  simp [this]
theorem code_none {codes : By} (c : UInt8) (h : codes = []) : hasCode codes c = true := by subst h; rfl
theorem take_all {α : Type} (l : List α) : l.take l.length = l := List.take_of_length_le (Nat.le_refl _)
end Rc

set_option maxHeartbeats 1600000 in
theorem field_All_c (f : Rc.Fl) (a : Option Addr) (c : Nat) (codes : ByteArray) (w : World) (h : Rc.SubA w a c f.subs) (hl : f.subs.length ≤ 1000) :
    Calls Tryz.prog 52 #[.agg #[.string f.tag, .string f.ind, .slice a f.subs.length c, .int .i64 f.auth], .string codes] w fun e w' => ∃ v, e = .returned v ∧ SL w' v (Rc.allV f.subs codes.data.toList) ∧ Below w.heap.size w w' := by
  obtain ⟨i0, hi0, hz0, hz1, hz2⟩ := info_parts info_str
  have h0 : Below w.heap.size w (w.alloc (.cells #[.string f.tag, .string f.ind, .slice a f.subs.length c, .int .i64 f.auth] 24)) := Tx.newb _ _
  have hcap := h.cap
  go_enter Tryz.func52, Tryz.ntmps52
  go_wp2
  go_loopw [5, 11] (fun v i wr => ∃ (k : Nat) (L : List ByteArray), k ≤ f.subs.length ∧ i = .int .i64 k ∧ Hid (L = Rc.allV (f.subs.take k) codes.data.toList) ∧ L.length ≤ k ∧ wr.ownsRow w.heap.size 9 1 v L.length (L.map Value.string) ∧ Below w.heap.size w wr) (fun _ i _ => f.subs.length - (intOf i).toNat)
  case atStart => exact ⟨0, [], Nat.zero_le _, rfl, Lib.hid rfl, Nat.le_refl _, World.ownsRow_nil _ _ _ _, h0⟩
  case round =>
    obtain ⟨k, L, hk, rfl, hL, hLk, hown, hb⟩ := hrel
    by_cases hlt : k < f.subs.length
    · obtain ⟨x, hx⟩ : ∃ x, f.subs[k]? = some x := ⟨_, List.getElem?_eq_getElem hlt⟩
      obtain ⟨b, o, rfl, hbl, c0, c1⟩ := h.get hx
      replace c0 := cell_later hb c0
      replace c1 := cell_later hb c1
      have hT := Rc.allV_take codes.data.toList hx
      have hbs := hb.size
      by_cases hce : codes.data.toList = []
      · have hH := Rc.code_none x.1 hce
        rw [if_pos hH, ← hL.out] at hT
        have HT := Lib.hid hT; clear hT hH
        have hem : codes.toList.isEmpty = true := by rw [Lib.toList_data, hce]; rfl
        clear hce h0
        go_wp2_with (at_builtin; go_must (refine wpList_append_own _ rfl _ _ 54 rfl w.heap.size 9 i0 (.string ⟨#[]⟩) 1 16 Tryz.underlying54 hi0 hz0 hz1 hz2 rfl (by decide) _ L.length _ rfl ((hown.alloc _).alloc _) ⟨_, 0, none⟩ 1 1 [.string x.2] rfl rfl (Tx.cell_one_at _ _ (by simp) _ _) (by simp [Value.oneCell']) (by unfold maxLen; omega) (by omega) (by simp; omega) ?_); intro v' w2 hown2 hg2 hnil2)
        have hb2 : Below w.heap.size w w2 := ((hb.alloc hb.size _).alloc (by simp; omega) _).grown hg2 (by simp; omega) (fun j hj => (hown.lt j hj).1)
        go_roundw
        case rel => exact ⟨k + 1, L ++ [x.2], by omega, by go_num, Lib.hid HT.out.symm, by simp; omega, by simpa using hown2, hb2⟩
        case measure => simp [intOf]; omega
      · have hcd := Rc.code_in (c := x.1) hce
        have hem : codes.toList.isEmpty = false := by rw [Lib.toList_data]; simpa using hce
        clear hce h0
        by_cases hH : Rc.hasCode codes.data.toList x.1 = true
        · rw [if_pos hH, ← hL.out] at hT
          have hge := hcd.2 hH
          have HT := Lib.hid hT; clear hT hH hcd
          go_wp2_with (first
            | (go_at_call 32; refine (Tryz.strings_IndexByte codes x.1.toNat _).mono ?_; rintro e w1 ⟨rfl, rfl⟩)
            | (at_builtin; go_must (refine wpList_append_own _ rfl _ _ 54 rfl w.heap.size 9 i0 (.string ⟨#[]⟩) 1 16 Tryz.underlying54 hi0 hz0 hz1 hz2 rfl (by decide) _ L.length _ rfl ((hown.alloc _).alloc _) ⟨_, 0, none⟩ 1 1 [.string x.2] rfl rfl (Tx.cell_one_at _ _ (by simp) _ _) (by simp [Value.oneCell']) (by unfold maxLen; omega) (by omega) (by simp; omega) ?_); intro v' w2 hown2 hg2 hnil2))
          have hb2 : Below w.heap.size w w2 := ((hb.alloc hb.size _).alloc (by simp; omega) _).grown hg2 (by simp; omega) (fun j hj => (hown.lt j hj).1)
          go_roundw
          case rel => exact ⟨k + 1, L ++ [x.2], by omega, by go_num, Lib.hid HT.out.symm, by simp; omega, by simpa using hown2, hb2⟩
          case measure => simp [intOf]; omega
        · rw [if_neg hH, List.append_nil, ← hL.out] at hT
          have hge : ¬ 0 ≤ Lib.indexByte codes.data.toList x.1 := fun h9 => hH (hcd.1 h9)
          have HT := Lib.hid hT; clear hT hH hcd
          go_wp2_with (go_at_call 32; refine (Tryz.strings_IndexByte codes x.1.toNat _).mono ?_; rintro e w1 ⟨rfl, rfl⟩)
          go_roundw
          case rel => exact ⟨k + 1, L, by omega, by go_num, Lib.hid HT.out.symm, by omega, hown.alloc _, hb.alloc hb.size _⟩
          case measure => simp [intOf]; omega
    · obtain rfl : k = f.subs.length := by omega
      have hL2 := hL.out
      rw [Rc.take_all] at hL2
      subst hL2
      go_wp2
      go_ret
      exact ⟨_, rfl, SL.of_own hown rfl, hb⟩

set_option maxHeartbeats 800000 in
theorem field_Plain_c (f : Rc.Fl) (a : Option Addr) (c : Nat) (codes : ByteArray) (w : World) (h : Rc.SubA w a c f.subs) (hg : Rc.Gd f) :
    Calls Tryz.prog 49 #[.agg #[.string f.tag, .string f.ind, .slice a f.subs.length c, .int .i64 f.auth], .string codes] w fun e w' => e = .returned (.string ⟨(Rc.plain f.subs codes.data.toList).toArray⟩) ∧ Below w.heap.size w w' := by
  have hlen := hg.plain_le codes.data.toList
  have hall := (hg.all codes.data.toList).1
  have h1 : Rc.SubA (w.alloc (.cells #[.string f.tag, .string f.ind, .slice a f.subs.length c, .int .i64 f.auth] 24)) a c f.subs := h.below (Tx.newb _ _)
  have HG := Lib.hid hg
  go_enter Tryz.func49, Tryz.ntmps49
  go_wp2_with (first
    | (go_at_call 52; refine (field_All_c f a c codes _ h1 HG.out.1).mono ?_; rintro e w1 ⟨v, rfl, hs1, hb1⟩)
    | (go_at_call 51; refine (Join_c v _ ⟨#[32]⟩ _ hs1 (Nat.le_trans hlen (by omega)) (by omega)).mono ?_; rintro e w2 ⟨rfl, hb2⟩))
  go_ret
  exact ⟨rfl, ((Tx.newb w _).trans (hb1.mono (Tx.newb w _).size)).trans (hb2.mono (by have := hb1.size; simp at this; omega))⟩
end Go.Proofs.YtlinaeklhkfbcaaGreatDoor
