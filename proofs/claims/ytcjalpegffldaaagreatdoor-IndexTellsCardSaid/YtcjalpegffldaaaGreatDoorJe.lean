/- Plain: the posts of an index, their order, and what putting them one by one comes to. -/
import Derived.Test.YtcjalpegffldaaaGreatDoorJb
import Derived.Test.YtcjalpegffldaaaGreatDoorJd
namespace Go.Proofs.YtcjalpegffldaaaGreatDoor
set_option maxRecDepth 100000

namespace Ix
abbrev By := List UInt8
structure Post where
  fld : Int
  word : By
  id : Int
  at_ : List Int
def ltK (a b : Post) : Bool := Cp.ltI a.fld b.fld || (decide (a.fld = b.fld) && (Cp.ltB a.word b.word || (decide (a.word = b.word) && Cp.ltI a.id b.id)))
def sameK (a b : Post) : Prop := a.fld = b.fld ∧ a.word = b.word ∧ a.id = b.id
theorem ltK_iff (a b : Post) : ltK a b = true ↔ a.fld < b.fld ∨ (a.fld = b.fld ∧ (a.word < b.word ∨ (a.word = b.word ∧ a.id < b.id))) := by
  unfold ltK Cp.ltI Cp.ltB
  simp
theorem ltB_tri (a b : By) (h1 : ¬ a < b) (h2 : a ≠ b) : b < a := by
  have := (Cp.ordB).tot (x := a) (y := b) (by simpa [Cp.ltB] using h1) h2
  simpa [Cp.ltB] using this
theorem ltK_irrefl (a : Post) : ltK a a = false := by
  rw [Bool.eq_false_iff]
  intro h
  rw [ltK_iff] at h
  rcases h with h | ⟨_, h | ⟨_, h⟩⟩
  · omega
  · exact List.lt_irrefl _ h
  · omega
theorem ltK_trans {a b c : Post} (h1 : ltK a b = true) (h2 : ltK b c = true) : ltK a c = true := by
  rw [ltK_iff] at *
  rcases h1 with h1 | ⟨e1, h1⟩
  · rcases h2 with h2 | ⟨e2, _⟩
    · exact .inl (by omega)
    · exact .inl (by omega)
  · rcases h2 with h2 | ⟨e2, h2⟩
    · exact .inl (by omega)
    · refine .inr ⟨by omega, ?_⟩
      rcases h1 with h1 | ⟨f1, h1⟩
      · rcases h2 with h2 | ⟨f2, _⟩
        · exact .inl (List.lt_trans h1 h2)
        · exact .inl (f2 ▸ h1)
      · rcases h2 with h2 | ⟨f2, h2⟩
        · exact .inl (f1 ▸ h2)
        · exact .inr ⟨f1.trans f2, by omega⟩
theorem ltK_tri {a b : Post} (h1 : ltK a b = false) (h : ¬ sameK a b) : ltK b a = true := by
  rw [Bool.eq_false_iff] at h1
  rw [ne_eq, ltK_iff] at h1
  rw [ltK_iff]
  by_cases e1 : a.fld = b.fld
  · refine .inr ⟨e1.symm, ?_⟩
    by_cases e2 : a.word = b.word
    · refine .inr ⟨e2.symm, ?_⟩
      by_cases e3 : a.id = b.id
      · exact absurd ⟨e1, e2, e3⟩ h
      · have : ¬ a.id < b.id := fun h9 => h1 (.inr ⟨e1, .inr ⟨e2, h9⟩⟩)
        omega
    · exact .inl (ltB_tri _ _ (fun h9 => h1 (.inr ⟨e1, .inl h9⟩)) e2)
  · exact .inl (by have : ¬ a.fld < b.fld := fun h9 => h1 (.inl h9); omega)
theorem ltK_ne {a b : Post} (h : ltK a b = true) : ¬ sameK a b := by
  rintro ⟨e1, e2, e3⟩
  rw [ltK_iff] at h
  rcases h with h | ⟨_, h | ⟨_, h⟩⟩
  · omega
  · rw [e2] at h; exact List.lt_irrefl _ h
  · omega
/-- Posts in order. -/
def Asc (l : List Post) : Prop := l.Pairwise fun x y => ltK x y = true
def ins : List Post → Post → List Post
  | [], x => [x]
  | y :: l, x => if ltK x y = true then x :: y :: l else y :: ins l x
theorem ins_perm : ∀ (l : List Post) (x : Post), (ins l x).Perm (x :: l)
  | [], x => List.Perm.refl _
  | y :: l, x => by
    unfold ins
    split
    · exact List.Perm.refl _
    · exact ((ins_perm l x).cons y).trans (List.Perm.swap x y l)
theorem ins_asc : ∀ (l : List Post) (x : Post), Asc l → (∀ y ∈ l, ¬ sameK x y) → Asc (ins l x)
  | [], x, _, _ => List.pairwise_singleton _ _
  | y :: l, x, h, hne => by
    have h' := List.pairwise_cons.1 h
    unfold ins
    split
    · rename_i hxy
      refine List.pairwise_cons.2 ⟨fun z hz => ?_, h⟩
      rcases List.mem_cons.1 hz with e | hz
      · rw [e]; exact hxy
      · exact ltK_trans hxy (h'.1 z hz)
    · rename_i hxy
      refine List.pairwise_cons.2 ⟨fun z hz => ?_, ins_asc l x h'.2 (fun z hz => hne z (List.mem_cons_of_mem _ hz))⟩
      rcases List.mem_cons.1 ((ins_perm l x).mem_iff.1 hz) with e | hz
      · rw [e]
        exact ltK_tri (by simpa using hxy) (hne y (List.mem_cons_self ..))
      · exact h'.1 z hz
/-- Posts with keys of their own. -/
def Ownk (l : List Post) : Prop := l.Pairwise fun x y => ¬ sameK x y
theorem Asc.own {l : List Post} (h : Asc l) : Ownk l := h.imp fun h => ltK_ne h
theorem sameK_symm {a b : Post} (h : sameK a b) : sameK b a := ⟨h.1.symm, h.2.1.symm, h.2.2.symm⟩
theorem Ownk.perm {a b : List Post} (h : Ownk a) (hp : a.Perm b) : Ownk b := hp.pairwise h (fun h k => h (sameK_symm k))
theorem fold_perm : ∀ (ps acc : List Post), (ps.foldl ins acc).Perm (acc ++ ps)
  | [], acc => by rw [List.append_nil]; exact List.Perm.refl _
  | p :: ps, acc => by
    rw [List.foldl_cons]
    refine (fold_perm ps _).trans ?_
    refine ((ins_perm acc p).append_right ps).trans ?_
    exact (List.perm_middle (a := p) (l₁ := acc) (l₂ := ps)).symm
theorem fold_asc : ∀ (ps acc : List Post), Asc acc → Ownk (acc ++ ps) → Asc (ps.foldl ins acc)
  | [], _, h, _ => h
  | p :: ps, acc, h, ho => by
    rw [List.foldl_cons]
    have h1 := List.pairwise_append.1 ho
    refine fold_asc ps _ (ins_asc acc p h (fun y hy k => h1.2.2 y hy p (List.mem_cons_self ..) (sameK_symm k))) ?_
    exact ho.perm ((List.perm_middle (a := p) (l₁ := acc) (l₂ := ps)).trans ((ins_perm acc p).symm.append_right ps))
/-- Two lists in order with the same posts are one. -/
theorem asc_perm : ∀ (a b : List Post), Asc a → Asc b → a.Perm b → a = b
  | [], b, _, _, h => (List.Perm.nil_eq h)
  | x :: a, [], _, _, h => by have := h.length_eq; simp at this
  | x :: a, y :: b, ha, hb, h => by
    have ha' := List.pairwise_cons.1 ha
    have hb' := List.pairwise_cons.1 hb
    have e : x = y := by
      rcases List.mem_cons.1 (h.mem_iff.1 (List.mem_cons_self ..)) with e | hx
      · exact e
      · rcases List.mem_cons.1 (h.mem_iff.2 (List.mem_cons_self ..)) with e | hy
        · exact e.symm
        · have h1 := hb'.1 x hx
          have h2 := ha'.1 y hy
          have h3 := ltK_trans h1 h2
          rw [ltK_irrefl] at h3
          cases h3
    subst e
    rw [asc_perm a b ha'.2 hb'.2 (List.Perm.cons_inv h)]
/-- What sorting gives: the posts put one by one. -/
theorem sorted_eq {s ps acc : List Post} (ha : Asc acc) (ho : Ownk (acc ++ ps)) (hp : s.Perm (acc ++ ps)) (hs : s.Pairwise fun x y => ltK y x = false) : s = ps.foldl ins acc := by
  have h1 := fold_asc ps acc ha ho
  have h2 : Ownk s := ho.perm hp.symm
  have h3 : Asc s := by
    have := h2.and hs
    exact this.imp fun ⟨hn, hf⟩ => ltK_tri hf (fun k => hn (sameK_symm k))
  exact asc_perm _ _ h3 h1 (hp.trans (fold_perm ps acc).symm)
end Ix
end Go.Proofs.YtcjalpegffldaaaGreatDoor

/- The reference's words of fields: what the calls return. -/
namespace Go.Proofs.YtcjalpegffldaaaGreatDoor
open Go.RowKit
set_option maxRecDepth 100000

namespace Ix
open Rc
/-- A list of texts as bytes, in memory of the call's own. -/
abbrev OwnT (w' : World) (B : Nat) (v : Value) (l : List By) : Prop := w'.ownsRow B 9 1 v l.length (l.map Tx.sv)
theorem own_sla {w : World} {B : Nat} {v : Value} {l : List By} (h : OwnT w B v l) : ∃ a c, v = .slice a l.length c ∧ SLA w a c (l.map fun x => (⟨x.toArray⟩ : ByteArray)) := by
  obtain ⟨a, c, e, hs⟩ := SLA.of_own (xs := l.map fun x => (⟨x.toArray⟩ : ByteArray)) h (by rw [List.map_map]; rfl)
  rw [List.length_map] at e
  exact ⟨a, c, e, hs⟩
end Ix

set_option maxHeartbeats 1600000 in
theorem r20_joined_c (x y : List Ix.By) (a b : Option Addr) (c d : Nat) (w : World) (hx : SLA w a c (x.map fun x => (⟨x.toArray⟩ : ByteArray))) (hy : SLA w b d (y.map fun x => (⟨x.toArray⟩ : ByteArray))) (hl : x.length + y.length ≤ 1000000) :
    Calls Tryz.prog 41 #[.slice a x.length c, .slice b y.length d] w fun e w' => ∃ v, e = .returned v ∧ Ix.OwnT w' w.heap.size v (x ++ y) ∧ Below w.heap.size w w' := by
  obtain ⟨i0, hi0, hz0, hz1, hz2⟩ := info_parts info_str
  have HI := Lib.hid hi0; clear hi0
  have hcx := hx.cap
  have hcy := hy.cap
  rw [List.length_map] at hcx hcy
  have HX := Lib.hid hx; have HY := Lib.hid hy
  clear hx hy
  go_enter Tryz.func41, Tryz.ntmps41
  go_wp2
  go_loopw [5, 6] (fun v i wr => ∃ (k : Nat), k ≤ x.length ∧ i = .int .i64 k ∧ Ix.OwnT wr w.heap.size v (x.take k) ∧ Below w.heap.size w wr) (fun _ i _ => x.length - (intOf i).toNat)
  case atStart => exact ⟨0, Nat.zero_le _, rfl, World.ownsRow_nil _ _ _ _, Below.refl _ _⟩
  case round =>
    obtain ⟨k, hk, rfl, hown, hb⟩ := hrel
    have hbs := hb.size
    by_cases hlt : k < x.length
    · obtain ⟨z, hz⟩ : ∃ z, x[k]? = some z := ⟨_, List.getElem?_eq_getElem hlt⟩
      obtain ⟨B, o, rfl, hbl, c0⟩ := HX.out.get (k := k) (x := ⟨z.toArray⟩) (by rw [List.getElem?_map, hz]; rfl)
      replace c0 := cell_later hb c0
      have htk : x.take (k + 1) = x.take k ++ [z] := by rw [List.take_succ_eq_append_getElem hlt, List.getElem?_eq_getElem hlt] at *; injection hz with hz; rw [hz]
      have hkl : (x.take k).length = k := by rw [List.length_take]; omega
      have HT := Lib.hid htk; clear htk
      have HK := Lib.hid hkl; clear hkl
      go_wp2_with (at_builtin; go_must (refine wpList_append_sl rfl _ _ 28 rfl w.heap.size 9 i0 _ 1 16 Tryz.underlying28 HI.out hz0 hz1 hz2 rfl (by decide) _ (x.take k).length _ rfl (hown.alloc _) (some ⟨_, 0, none⟩) 1 1 [Value.string ⟨z.toArray⟩] rfl rfl (fun h9 => by cases h9) (fun ad had => by cases had; exact Br.cells_new_at _ _ (by first | rfl | simp) _ _) (by simp [Value.oneCell']) (by unfold maxLen; have := HK.out; omega) (by have := HK.out; omega) (by simp; omega) ?_); intro v' w7 hown7 hg7 hnil7)
      go_roundw
      case rel => exact ⟨k + 1, hlt, by go_num, by unfold Ix.OwnT; rw [HT.out, List.length_append, List.map_append]; exact hown7, (hb.alloc hbs _).grown hg7 (by simp; omega) (fun j hj => (hown.lt j hj).1)⟩
      case measure => simp [intOf]; omega
    · obtain rfl : k = x.length := by omega
      rw [List.take_length] at hown
      clear hlt
      go_wp2
      go_loopw [5, 7] (fun v i wr => ∃ (k : Nat), k ≤ y.length ∧ i = .int .i64 k ∧ Ix.OwnT wr w.heap.size v (x ++ y.take k) ∧ Below w.heap.size w wr) (fun _ i _ => y.length - (intOf i).toNat)
      case atStart => exact ⟨0, Nat.zero_le _, rfl, by rw [List.take_zero, List.append_nil]; exact hown, hb⟩
      case round =>
        obtain ⟨k, hk, rfl, hown, hb⟩ := hrel
        have hbs := hb.size
        by_cases hlt : k < y.length
        · obtain ⟨z, hz⟩ : ∃ z, y[k]? = some z := ⟨_, List.getElem?_eq_getElem hlt⟩
          obtain ⟨B, o, rfl, hbl, c0⟩ := HY.out.get (k := k) (x := ⟨z.toArray⟩) (by rw [List.getElem?_map, hz]; rfl)
          replace c0 := cell_later hb c0
          have htk : x ++ y.take (k + 1) = (x ++ y.take k) ++ [z] := by rw [List.take_succ_eq_append_getElem hlt, List.append_assoc]; rw [List.getElem?_eq_getElem hlt] at hz; injection hz with hz; rw [hz]
          have hkl : (x ++ y.take k).length = x.length + k := by rw [List.length_append, List.length_take]; omega
          have HT := Lib.hid htk; clear htk
          have HK := Lib.hid hkl; clear hkl
          go_wp2_with (at_builtin; go_must (refine wpList_append_sl rfl _ _ 28 rfl w.heap.size 9 i0 _ 1 16 Tryz.underlying28 HI.out hz0 hz1 hz2 rfl (by decide) _ (x ++ y.take k).length _ rfl (hown.alloc _) (some ⟨_, 0, none⟩) 1 1 [Value.string ⟨z.toArray⟩] rfl rfl (fun h9 => by cases h9) (fun ad had => by cases had; exact Br.cells_new_at _ _ (by first | rfl | simp) _ _) (by simp [Value.oneCell']) (by unfold maxLen; have := HK.out; omega) (by have := HK.out; omega) (by simp; omega) ?_); intro v' w7 hown7 hg7 hnil7)
          go_roundw
          case rel => exact ⟨k + 1, hlt, by go_num, by unfold Ix.OwnT; rw [HT.out, List.length_append, List.map_append]; exact hown7, (hb.alloc hbs _).grown hg7 (by simp; omega) (fun j hj => (hown.lt j hj).1)⟩
          case measure => simp [intOf]; omega
        · obtain rfl : k = y.length := by omega
          rw [List.take_length] at hown
          go_wp2
          go_ret
          exact ⟨_, rfl, hown, hb⟩
end Go.Proofs.YtcjalpegffldaaaGreatDoor

/- The reference's words of a field: what the call returns. -/
namespace Go.Proofs.YtcjalpegffldaaaGreatDoor
open Go.RowKit
set_option maxRecDepth 100000

namespace Ix
open Rc
/-- The words of the values of codes of a field. -/
def wordsF (f : Fl) (codes : By) : List By := (allV f.subs codes).flatMap fun s => Tx.words s.data.toList
theorem flat_take {α β : Type} (g : α → List β) {l : List α} {k : Nat} {x : α} (h : l[k]? = some x) : (l.take (k + 1)).flatMap g = (l.take k).flatMap g ++ g x := by
  have hlt := (List.getElem?_eq_some_iff.1 h).1
  rw [List.take_succ_eq_append_getElem hlt, List.flatMap_append]
  rw [List.getElem?_eq_getElem hlt] at h
  injection h with h
  rw [h]
  simp
theorem flat_le {α β : Type} (g : α → List β) (l : List α) (k : Nat) : ((l.take k).flatMap g).length ≤ (l.flatMap g).length := by
  conv => rhs; rw [← List.take_append_drop k l]
  rw [List.flatMap_append, List.length_append]
  omega
end Ix

theorem SLA.grown {w w' : World} {row : Option Nat} {a : Option Addr} {c : Nat} {xs : List ByteArray} (h : SLA w a c xs) (hg : w.grownBy w' row) (hne : ∀ g, a = some g → some g.block ≠ row) : SLA w' a c xs := by
  by_cases h0 : xs = []
  · subst h0
    exact ⟨h.cap, h.max, 0, 0, fun h9 => absurd rfl h9, fun j x hx => by simp at hx⟩
  · obtain ⟨b, o, h1, h2⟩ := h.at_
    obtain ⟨ha, hb⟩ := h1 h0
    exact ⟨h.cap, h.max, b, o, fun _ => ⟨ha, Nat.lt_of_lt_of_le hb hg.size⟩, fun j x hx => (hg.cell_far ⟨b, o + j, Option.none⟩ hb (show some b ≠ row from hne _ ha)).trans (h2 j x hx)⟩

set_option maxHeartbeats 3200000 in
theorem r20_words_c (f : Rc.Fl) (a : Option Addr) (c : Nat) (codes : ByteArray) (w : World) (h : Rc.SubA w a c f.subs) (hl : f.subs.length ≤ 1000) (hs : codes.size ≤ 1000) (hz : ∀ x ∈ f.subs, x.2.size ≤ 100000) (hn : (Ix.wordsF f codes.data.toList).length ≤ 100000) :
    Calls Tryz.prog 43 #[.agg #[.string f.tag, .string f.ind, .slice a f.subs.length c, .int .i64 f.auth], .string codes] w fun e w' => ∃ v, e = .returned v ∧ Ix.OwnT w' w.heap.size v (Ix.wordsF f codes.data.toList) ∧ Below w.heap.size w w' := by
  obtain ⟨i0, hi0, hz0, hz1, hz2⟩ := info_parts info_str
  have HI := Lib.hid hi0; clear hi0
  obtain ⟨W, hW⟩ : ∃ W, w.alloc (.cells #[.string f.tag, .string f.ind, .slice a f.subs.length c, .int .i64 f.auth] 55) = W := ⟨_, rfl⟩
  have hB : Below w.heap.size w W := by rw [← hW]; exact Tx.newb _ _
  have KF : Hid (W.heap[w.heap.size]? = some (.cells #[.string f.tag, .string f.ind, .slice a f.subs.length c, .int .i64 f.auth] 55 (0, 0))) := Lib.hid (by rw [← hW]; exact heap_alloc_new w _)
  have c0 : W.cell? ⟨w.heap.size, 0, none⟩ = some (.string f.tag) := (Tx.blk KF.out).1 0
  have c1 : W.cell? ⟨w.heap.size, 1, none⟩ = some (.string f.ind) := (Tx.blk KF.out).1 1
  have c2 : W.cell? ⟨w.heap.size, 2, none⟩ = some (.slice a f.subs.length c) := (Tx.blk KF.out).1 2
  have c3 : W.cell? ⟨w.heap.size, 3, none⟩ = some (.int .i64 f.auth) := (Tx.blk KF.out).1 3
  have HS := Lib.hid (h.below hB); clear h
  obtain ⟨L, hL⟩ : ∃ L, Rc.allV f.subs codes.data.toList = L := ⟨_, rfl⟩
  have hLz : ∀ x ∈ L, x.size ≤ 100000 := fun x hx => by
    rw [← hL] at hx
    unfold Rc.allV at hx
    obtain ⟨y, hy, rfl⟩ := List.mem_map.1 hx
    exact hz y (List.mem_filter.1 hy).1
  have hLl : L.length ≤ 1000 := by rw [← hL]; unfold Rc.allV; rw [List.length_map]; exact Nat.le_trans (List.length_filter_le _ _) hl
  have hWF : Ix.wordsF f codes.data.toList = L.flatMap fun s => Tx.words s.data.toList := by unfold Ix.wordsF; rw [hL]
  rw [hWF] at hn ⊢
  have hle := fun k => Ix.flat_le (fun s : ByteArray => Tx.words s.data.toList) L k
  have HLE := Lib.hid hle; have HLZ := Lib.hid hLz; have HL := Lib.hid hL
  clear hle hLz hL hWF hz
  have hn' := hn
  go_enter Tryz.func43, Tryz.ntmps43
  go_wp2_with (go_at_call 45; ((with_reducible refine (r07_All_c f a c codes _ HS.out hl hs).mono ?_); rintro e w1 ⟨va, vc, rfl, hsl, hb1⟩; rw [HL.out] at hsl ⊢; have HSL := Lib.hid hsl; clear hsl; have k1 := Tx.step hB hb1; have s1 := hb1.size))
  clear hW
  have hcap := HSL.out.cap
  go_loopw [5, 7] (fun v i wr => ∃ (k : Nat), k ≤ L.length ∧ i = .int .i64 k ∧ Ix.OwnT wr w1.heap.size v ((L.take k).flatMap fun s => Tx.words s.data.toList) ∧ Below w1.heap.size w1 wr) (fun _ i _ => L.length - (intOf i).toNat)
  case atStart => exact ⟨0, Nat.zero_le _, rfl, World.ownsRow_nil _ _ _ _, Below.refl _ _⟩
  case round =>
    obtain ⟨k, hk, rfl, hown, hb⟩ := hrel
    have hbs := hb.size
    by_cases hlt : k < L.length
    · have hw9 := IntWalk.i64_in ((k : Int) + 1) ⟨by omega, by omega⟩
      obtain ⟨z, hz⟩ : ∃ z, L[k]? = some z := ⟨_, List.getElem?_eq_getElem hlt⟩
      obtain ⟨B, o, rfl, hbl, e0⟩ := HSL.out.get hz
      replace e0 := cell_later hb e0
      have hft := Ix.flat_take (fun s : ByteArray => Tx.words s.data.toList) hz
      have hzs := HLZ.out z (List.mem_of_getElem? hz)
      have hk1 := HLE.out (k + 1)
      rw [hft] at hk1
      obtain ⟨acc, hacc⟩ : ∃ acc, (L.take k).flatMap (fun s : ByteArray => Tx.words s.data.toList) = acc := ⟨_, rfl⟩
      obtain ⟨ws, hws⟩ : ∃ ws, Tx.words z.data.toList = ws := ⟨_, rfl⟩
      simp only [hacc, hws, List.length_append] at hk1 hft
      rw [hacc] at hown
      have HFT := Lib.hid hft; have HWS := Lib.hid hws
      clear hft hacc hws hz
      go_wp2_with (go_at_call 74; ((with_reducible refine (r01_Words_c z _ (by omega)).mono ?_); rintro e w2 ⟨v2, rfl, hown2, hb2⟩; rw [HWS.out] at hown2; obtain ⟨a2, c2', rfl, hs2⟩ := Ix.own_sla hown2; have HS2 := Lib.hid hs2; have hlo2 : ∀ ad, a2 = some ad → wr.heap.size ≤ ad.block ∧ ad.block < w2.heap.size := (fun ad h => by subst h; exact hown2.lt _ rfl); clear hs2 hown2; have own3 := own_below hown hb2; have k2 := hb.trans (hb2.mono hbs); have s2 := hb2.size))
      have hcap2 := HS2.out.cap
      rw [List.length_map] at hcap2
      go_loopw [5, 9] (fun v i wr => ∃ (j : Nat), j ≤ ws.length ∧ i = .int .i64 j ∧ Ix.OwnT wr w1.heap.size v (acc ++ ws.take j) ∧ Below w1.heap.size w1 wr ∧ Hid (SLA wr a2 c2' (ws.map fun x => (⟨x.toArray⟩ : ByteArray))) ∧ (∀ ad, a2 = some ad → v.ownBlock ≠ some ad.block ∧ ad.block < wr.heap.size)) (fun _ i _ => ws.length - (intOf i).toNat)
      case atStart => exact ⟨0, Nat.zero_le _, rfl, by rw [List.take_zero, List.append_nil]; exact own3, k2, HS2, fun ad h => ⟨fun e => by have := (hown.lt _ e).2; have := (hlo2 ad h).1; omega, (hlo2 ad h).2⟩⟩
      case round =>
        obtain ⟨j, hj, rfl, hown4, hb4, hs4, hne4⟩ := hrel
        have hbs4 := hb4.size
        by_cases hlt2 : j < ws.length
        · obtain ⟨y, hy⟩ : ∃ y, ws[j]? = some y := ⟨_, List.getElem?_eq_getElem hlt2⟩
          obtain ⟨B2, o2, rfl, hbl2, e2⟩ := hs4.out.get (k := j) (x := ⟨y.toArray⟩) (by rw [List.getElem?_map, hy]; rfl)
          have htk : acc ++ ws.take (j + 1) = (acc ++ ws.take j) ++ [y] := by rw [List.take_succ_eq_append_getElem hlt2, List.append_assoc]; rw [List.getElem?_eq_getElem hlt2] at hy; injection hy with hy; rw [hy]
          have hkl : (acc ++ ws.take j).length = acc.length + j := by rw [List.length_append, List.length_take]; omega
          have HT := Lib.hid htk; clear htk
          have HK := Lib.hid hkl; clear hkl
          go_wp2_with (at_builtin; go_must (refine wpList_append_sl rfl _ _ 28 rfl w1.heap.size 9 i0 _ 1 16 Tryz.underlying28 HI.out hz0 hz1 hz2 rfl (by decide) _ (acc ++ ws.take j).length _ rfl (hown4.alloc _) (some ⟨_, 0, none⟩) 1 1 [Value.string ⟨y.toArray⟩] rfl rfl (fun h9 => by cases h9) (fun ad had => by cases had; exact Br.cells_new_at _ _ (by first | rfl | simp) _ _) (by simp [Value.oneCell']) (by unfold maxLen; have := HK.out; omega) (by have := HK.out; omega) (by simp; omega) ?_); intro v' w7 hown7 hg7 hnil7)
          go_roundw
          case rel => exact ⟨j + 1, hlt2, by go_num, by unfold Ix.OwnT; rw [HT.out, List.length_append, List.map_append]; exact hown7, (hb4.alloc hbs4 _).grown hg7 (by simp; omega) (fun i hi => (hown4.lt i hi).1), Lib.hid ((hs4.out.below (Tx.newb _ _)).grown hg7 (fun g hg e => (hne4 g hg).1 e.symm)), fun ad h => ⟨fun e => by
            rcases hnil7 with h9 | h9
            · rw [h9] at e; exact (hne4 ad h).1 e
            · rw [h9] at e; injection e with e; have := (hne4 ad h).2; simp at e; omega, by have := (hne4 ad h).2; have := hg7.size; simp at this; omega⟩⟩
          case measure => simp [intOf]; omega
        · obtain rfl : j = ws.length := by omega
          rw [List.take_length] at hown4
          go_wp2
          go_roundw
          case rel => exact ⟨k + 1, hlt, by go_num, by rw [HFT.out]; exact hown4, hb4⟩
          case measure => simp [intOf]; omega
    · obtain rfl : k = L.length := by omega
      rw [List.take_length] at hown
      go_wp2
      go_ret
      exact ⟨_, rfl, ⟨hown.1, by
        rcases hown.2 with h1 | ⟨g, cap, cur, h1, h2, h3, h4⟩
        · exact .inl h1
        · exact .inr ⟨g, cap, cur, h1, by have := hB.size; omega, h3, h4⟩⟩, Tx.step k1 hb⟩
end Go.Proofs.YtcjalpegffldaaaGreatDoor

/- The reference's words of all fields with a tag: what the call returns. -/
namespace Go.Proofs.YtcjalpegffldaaaGreatDoor
open Go.RowKit
set_option maxRecDepth 100000

namespace Ix
open Rc
/-- Of moderate size. -/
structure Mod (fs : List Fl) : Prop where
  len : fs.length ≤ 20
  subs : ∀ f ∈ fs, f.subs.length ≤ 1000
  size : ∀ f ∈ fs, ∀ x ∈ f.subs, x.2.size ≤ 100000
  words : ∀ f ∈ fs, ∀ codes, (wordsF f codes).length ≤ 1000
/-- The words of the fields that are wanted. -/
def pick (p : Fl → Bool) (codes : By) (fs : List Fl) : List By := (fs.filter p).flatMap fun f => wordsF f codes
theorem pick_take {p : Fl → Bool} {codes : By} {fs : List Fl} {k : Nat} {f : Fl} (h : fs[k]? = some f) : pick p codes (fs.take (k + 1)) = pick p codes (fs.take k) ++ (if p f = true then wordsF f codes else []) := by
  have hlt := (List.getElem?_eq_some_iff.1 h).1
  unfold pick
  rw [List.take_succ_eq_append_getElem hlt, List.filter_append, List.flatMap_append]
  rw [List.getElem?_eq_getElem hlt] at h
  injection h with h
  rw [h]
  congr 1
  by_cases hp : p f = true
  · rw [if_pos hp, List.filter_cons_of_pos hp]; simp
  · rw [if_neg hp, List.filter_cons_of_neg hp]; rfl
theorem pick_le {p : Fl → Bool} {codes : By} : ∀ {fs : List Fl}, (∀ f ∈ fs, (wordsF f codes).length ≤ 1000) → (pick p codes fs).length ≤ 1000 * fs.length
  | [], _ => Nat.zero_le _
  | f :: fs, h => by
    have ih := pick_le (p := p) (codes := codes) (fs := fs) (fun g hg => h g (List.mem_cons_of_mem _ hg))
    have h1 := h f (List.mem_cons_self ..)
    unfold pick at ih ⊢
    by_cases hp : p f = true
    · rw [List.filter_cons_of_pos hp, List.flatMap_cons, List.length_append, List.length_cons]
      omega
    · rw [List.filter_cons_of_neg hp, List.length_cons]
      omega
theorem own_lower {w : World} {B B2 : Nat} {v : Value} {l : List By} (h : OwnT w B2 v l) (hB : B ≤ B2) : OwnT w B v l := ⟨h.1, by
  rcases h.2 with h1 | ⟨g, cap, cur, h1, h2, h3, h4⟩
  · exact .inl h1
  · exact .inr ⟨g, cap, cur, h1, by omega, h3, h4⟩⟩
end Ix

set_option maxHeartbeats 3200000 in
theorem r20_tagged_c (fs : List Rc.Fl) (a : Option Addr) (c : Nat) (id ver kind : Int) (lang : ByteArray) (tag codes : ByteArray) (w : World) (h : Rc.FldA w a c fs) (hM : Ix.Mod fs) (hs : codes.size ≤ 1000) :
    Calls Tryz.prog 42 #[.agg #[.int .i64 id, .int .i64 ver, .int .i64 kind, .string lang, .slice a fs.length c], .string tag, .string codes] w fun e w' => ∃ v, e = .returned v ∧ Ix.OwnT w' w.heap.size v (Ix.pick (Rc.tagIs tag.data.toList) codes.data.toList fs) ∧ Below w.heap.size w w' := by
  obtain ⟨W, hW⟩ : ∃ W, w.alloc (.cells #[.int .i64 id, .int .i64 ver, .int .i64 kind, .string lang, .slice a fs.length c] 24) = W := ⟨_, rfl⟩
  have hB : Below w.heap.size w W := by rw [← hW]; exact Tx.newb _ _
  have c4 : W.cell? ⟨w.heap.size, 4, none⟩ = some (.slice a fs.length c) := by rw [← hW]; simp
  have HS := Lib.hid (h.below hB); clear h
  have hlen := hM.len
  have hcap := HS.out.cap
  have hbB := hB.size
  go_enter Tryz.func42, Tryz.ntmps42
  go_wp2
  clear hW
  go_loopw [7, 8] (fun v i wr => ∃ (k : Nat), k ≤ fs.length ∧ i = .int .i64 k ∧ Ix.OwnT wr w.heap.size v (Ix.pick (Rc.tagIs tag.data.toList) codes.data.toList (fs.take k)) ∧ Below w.heap.size w wr ∧ Below W.heap.size W wr) (fun _ i _ => fs.length - (intOf i).toNat)
  case atStart => exact ⟨0, Nat.zero_le _, rfl, World.ownsRow_nil _ _ _ _, hB, Below.refl _ _⟩
  case round =>
    obtain ⟨k, hk, rfl, hown, hb, hbW⟩ := hrel
    have hbs := hb.size
    have hbWs := hbW.size
    replace c4 := cell_later hbW c4
    by_cases hlt : k < fs.length
    · obtain ⟨f, hf⟩ : ∃ f, fs[k]? = some f := ⟨_, List.getElem?_eq_getElem hlt⟩
      have hfm := List.mem_of_getElem? hf
      obtain ⟨B, o, sa, sc, rfl, hbl, d0, d1, d2, d3, hsub⟩ := HS.out.get hf
      replace d0 := cell_later hbW d0
      replace d1 := cell_later hbW d1
      replace d2 := cell_later hbW d2
      replace d3 := cell_later hbW d3
      have HSUB := Lib.hid (hsub.below hbW); clear hsub
      have hpt := Ix.pick_take (p := Rc.tagIs tag.data.toList) (codes := codes.data.toList) hf
      have hpl := Ix.pick_le (p := Rc.tagIs tag.data.toList) (codes := codes.data.toList) (fs := fs.take k) (fun g hg => hM.words g (List.mem_of_mem_take hg) _)
      rw [List.length_take] at hpl
      have hwf := hM.words f hfm codes.data.toList
      have hsl := hM.subs f hfm
      have HSZ := Lib.hid (hM.size f hfm)
      obtain ⟨acc, hacc⟩ : ∃ acc, Ix.pick (Rc.tagIs tag.data.toList) codes.data.toList (fs.take k) = acc := ⟨_, rfl⟩
      rw [hacc] at hown hpt hpl
      have hpl2 : acc.length ≤ 20000 := by omega
      clear hpl hacc
      by_cases ht : f.tag = tag
      · have hti : Rc.tagIs tag.data.toList f = true := by unfold Rc.tagIs; rw [ht]; simp
        rw [if_pos hti] at hpt
        obtain ⟨WF, hWF⟩ : ∃ ws, Ix.wordsF f codes.data.toList = ws := ⟨_, rfl⟩
        rw [hWF] at hpt hwf
        have HPT := Lib.hid hpt; have HWF := Lib.hid hWF
        rw [ht] at d0
        have HT := Lib.hid ht
        clear hpt hWF hti hf ht
        have CW : Hid (∀ w', Below wr.heap.size wr w' → Calls Tryz.prog 43 #[.agg #[.string tag, .string f.ind, .slice sa f.subs.length sc, .int .i64 f.auth], .string codes] w' fun e w'' => ∃ v, e = .returned v ∧ Ix.OwnT w'' w'.heap.size v WF ∧ Below w'.heap.size w' w'') := Lib.hid (fun w' hb' => by
          have h9 := r20_words_c f sa sc codes w' (HSUB.out.below hb') hsl hs HSZ.out (by rw [HWF.out]; omega)
          rw [HT.out, HWF.out] at h9
          exact h9)
        obtain ⟨oa, oc, rfl, hso⟩ := Ix.own_sla hown
        have HSO := Lib.hid hso; clear hso
        go_wp2_with (first
          | (go_at_call 41; ((with_reducible refine (r20_joined_c acc WF oa va oc vc _ (HSO.out.below hb2) HSV.out (by omega)).mono ?_); rintro e w3 ⟨v3, rfl, hown3, hb3⟩; have s3 := hb3.size))
          | (go_at_call 43; ((with_reducible refine (CW.out _ (Below.refl _ _)).mono ?_); rintro e w2 ⟨v2, rfl, hown2, hb2⟩; obtain ⟨va, vc, rfl, hsv⟩ := Ix.own_sla hown2; have HSV := Lib.hid hsv; clear hsv hown2; have s2 := hb2.size)))
        go_roundw
        case rel => exact ⟨k + 1, hlt, by go_num, by rw [HPT.out]; exact Ix.own_lower hown3 (by omega), Tx.step (Tx.step hb hb2) hb3, Tx.step (Tx.step hbW hb2) hb3⟩
        case measure => simp [intOf]; omega
      · have hti : ¬ Rc.tagIs tag.data.toList f = true := by
          unfold Rc.tagIs
          intro h9
          rw [beq_iff_eq] at h9
          exact ht (ByteArray.ext (Array.toList_inj.1 h9))
        rw [if_neg hti, List.append_nil] at hpt
        have HPT := Lib.hid hpt
        have ht2 : (f.tag.data.toList == tag.data.toList) = false := by simpa [Rc.tagIs] using hti
        have ht3 : (f.tag.toList == tag.toList) = false := by rw [Lib.toList_data, Lib.toList_data]; exact ht2
        clear hpt hti hf
        go_wp2
        go_roundw
        case rel => exact ⟨k + 1, hlt, by go_num, by rw [HPT.out]; exact hown, hb, hbW⟩
        case measure => simp [intOf]; omega
    · obtain rfl : k = fs.length := by omega
      rw [List.take_length] at hown
      go_wp2
      go_ret
      exact ⟨_, rfl, hown, hb⟩
end Go.Proofs.YtcjalpegffldaaaGreatDoor

/- The reference's words of all fields whose tags begin with a digit: what the call returns. -/
namespace Go.Proofs.YtcjalpegffldaaaGreatDoor
open Go.RowKit
set_option maxRecDepth 100000

namespace Ix
open Rc
def begB (d : UInt8) (f : Fl) : Bool := f.tag.data.toList.head? == some d
theorem begB_pos {d : UInt8} {f : Fl} (h : 0 < f.tag.size) : begB d f = (f.tag[0]'h == d) := by
  unfold begB
  have h2 : f.tag.data.toList.head? = some (f.tag[0]'h) := by
    rw [List.head?_eq_getElem?, Array.getElem?_toList, Array.getElem?_eq_getElem h]
    rfl
  rw [h2]
  rfl
theorem begB_nil {d : UInt8} {f : Fl} (h : f.tag.size = 0) : ¬ begB d f = true := by
  unfold begB
  have : f.tag.data.toList = [] := List.eq_nil_of_length_eq_zero (by rw [← Lib.size_eq]; exact h)
  rw [this]
  simp
end Ix

set_option maxHeartbeats 3200000 in
theorem r20_begun_c (fs : List Rc.Fl) (a : Option Addr) (c : Nat) (id ver kind : Int) (lang : ByteArray) (d : UInt8) (codes : ByteArray) (w : World) (h : Rc.FldA w a c fs) (hM : Ix.Mod fs) (hs : codes.size ≤ 1000) :
    Calls Tryz.prog 44 #[.agg #[.int .i64 id, .int .i64 ver, .int .i64 kind, .string lang, .slice a fs.length c], .int .u8 d.toNat, .string codes] w fun e w' => ∃ v, e = .returned v ∧ Ix.OwnT w' w.heap.size v (Ix.pick (Ix.begB d) codes.data.toList fs) ∧ Below w.heap.size w w' := by
  obtain ⟨W, hW⟩ : ∃ W, w.alloc (.cells #[.int .i64 id, .int .i64 ver, .int .i64 kind, .string lang, .slice a fs.length c] 24) = W := ⟨_, rfl⟩
  have hB : Below w.heap.size w W := by rw [← hW]; exact Tx.newb _ _
  have c4 : W.cell? ⟨w.heap.size, 4, none⟩ = some (.slice a fs.length c) := by rw [← hW]; simp
  have HS := Lib.hid (h.below hB); clear h
  have hlen := hM.len
  have hcap := HS.out.cap
  have hbB := hB.size
  go_enter Tryz.func44, Tryz.ntmps44
  go_wp2
  clear hW
  go_loopw [7, 8] (fun v i wr => ∃ (k : Nat), k ≤ fs.length ∧ i = .int .i64 k ∧ Ix.OwnT wr w.heap.size v (Ix.pick (Ix.begB d) codes.data.toList (fs.take k)) ∧ Below w.heap.size w wr ∧ Below W.heap.size W wr) (fun _ i _ => fs.length - (intOf i).toNat)
  case atStart => exact ⟨0, Nat.zero_le _, rfl, World.ownsRow_nil _ _ _ _, hB, Below.refl _ _⟩
  case round =>
    obtain ⟨k, hk, rfl, hown, hb, hbW⟩ := hrel
    have hbs := hb.size
    have hbWs := hbW.size
    replace c4 := cell_later hbW c4
    by_cases hlt : k < fs.length
    · obtain ⟨f, hf⟩ : ∃ f, fs[k]? = some f := ⟨_, List.getElem?_eq_getElem hlt⟩
      have hfm := List.mem_of_getElem? hf
      obtain ⟨B, o, sa, sc, rfl, hbl, d0, d1, d2, d3, hsub⟩ := HS.out.get hf
      replace d0 := cell_later hbW d0
      replace d1 := cell_later hbW d1
      replace d2 := cell_later hbW d2
      replace d3 := cell_later hbW d3
      have HSUB := Lib.hid (hsub.below hbW); clear hsub
      have hpt := Ix.pick_take (p := (Ix.begB d)) (codes := codes.data.toList) hf
      have hpl := Ix.pick_le (p := (Ix.begB d)) (codes := codes.data.toList) (fs := fs.take k) (fun g hg => hM.words g (List.mem_of_mem_take hg) _)
      rw [List.length_take] at hpl
      have hwf := hM.words f hfm codes.data.toList
      have hsl := hM.subs f hfm
      have HSZ := Lib.hid (hM.size f hfm)
      obtain ⟨acc, hacc⟩ : ∃ acc, Ix.pick (Ix.begB d) codes.data.toList (fs.take k) = acc := ⟨_, rfl⟩
      rw [hacc] at hown hpt hpl
      have hpl2 : acc.length ≤ 20000 := by omega
      clear hpl hacc
      by_cases hz : f.tag.size = 0
      · have hti := Ix.begB_nil (d := d) hz
        have hte : (f.tag.toList == []) = true := by
          rw [Lib.toList_data, List.eq_nil_of_length_eq_zero (by rw [← Lib.size_eq]; exact hz : f.tag.data.toList.length = 0)]
          rfl
        rw [if_neg hti, List.append_nil] at hpt
        have HPT := Lib.hid hpt
        clear hpt hti hf
        go_wp2
        go_roundw
        case rel => exact ⟨k + 1, hlt, by go_num, by rw [HPT.out]; exact hown, hb, hbW⟩
        case measure => simp [intOf]; omega
      · have h0 : 0 < f.tag.size := by omega
        have hte : (f.tag.toList == []) = false := by
          rw [Lib.toList_data, beq_eq_false_iff_ne]
          intro h9
          have := congrArg List.length h9
          rw [← Lib.size_eq] at this
          exact hz this
        obtain ⟨x, hx⟩ : ∃ x, f.tag[0]'h0 = x := ⟨_, rfl⟩
        have hxx : ∀ h, f.tag[0]'h = x := fun _ => hx
        have hbp := Ix.begB_pos (d := d) (f := f) h0
        rw [hx] at hbp
        have hgu := Rc.u8_eq (a := x) (b := d)
        clear hx
        by_cases hxd : x = d
        · have hti : Ix.begB d f = true := by rw [hbp, hxd]; simp
          have hq2 : (x == d) = true := by simpa using hxd
          rw [hq2] at hgu
          rw [if_pos hti] at hpt
          clear hbp hq2 hxd
          obtain ⟨WF, hWF⟩ : ∃ ws, Ix.wordsF f codes.data.toList = ws := ⟨_, rfl⟩
          rw [hWF] at hpt hwf
          have HPT := Lib.hid hpt; have HWF := Lib.hid hWF
          clear hpt hWF hti hf
          have CW : Hid (∀ w', Below wr.heap.size wr w' → Calls Tryz.prog 43 #[.agg #[.string f.tag, .string f.ind, .slice sa f.subs.length sc, .int .i64 f.auth], .string codes] w' fun e w'' => ∃ v, e = .returned v ∧ Ix.OwnT w'' w'.heap.size v WF ∧ Below w'.heap.size w' w'') := Lib.hid (fun w' hb' => by
            have h9 := r20_words_c f sa sc codes w' (HSUB.out.below hb') hsl hs HSZ.out (by rw [HWF.out]; omega)
            rw [HWF.out] at h9
            exact h9)
          obtain ⟨oa, oc, rfl, hso⟩ := Ix.own_sla hown
          have HSO := Lib.hid hso; clear hso
          go_wp2_with (first
            | (go_at_call 41; ((with_reducible refine (r20_joined_c acc WF oa va oc vc _ (HSO.out.below hb2) HSV.out (by omega)).mono ?_); rintro e w3 ⟨v3, rfl, hown3, hb3⟩; have s3 := hb3.size))
            | (go_at_call 43; ((with_reducible refine (CW.out _ (Below.refl _ _)).mono ?_); rintro e w2 ⟨v2, rfl, hown2, hb2⟩; obtain ⟨va, vc, rfl, hsv⟩ := Ix.own_sla hown2; have HSV := Lib.hid hsv; clear hsv hown2; have s2 := hb2.size)))
          go_roundw
          case rel => exact ⟨k + 1, hlt, by go_num, by rw [HPT.out]; exact Ix.own_lower hown3 (by omega), Tx.step (Tx.step hb hb2) hb3, Tx.step (Tx.step hbW hb2) hb3⟩
          case measure => simp [intOf]; omega
        · have hti : ¬ Ix.begB d f = true := by rw [hbp]; simpa using hxd
          have hq2 : (x == d) = false := by simpa using hxd
          rw [hq2] at hgu
          clear hbp hq2 hxd
          rw [if_neg hti, List.append_nil] at hpt
          have HPT := Lib.hid hpt
          clear hpt hti hf
          go_wp2
          go_roundw
          case rel => exact ⟨k + 1, hlt, by go_num, by rw [HPT.out]; exact hown, hb, hbW⟩
          case measure => simp [intOf]; omega
    · obtain rfl : k = fs.length := by omega
      rw [List.take_length] at hown
      go_wp2
      go_ret
      exact ⟨_, rfl, hown, hb⟩
end Go.Proofs.YtcjalpegffldaaaGreatDoor

/- The reference's plain numbers: what the call returns. -/
namespace Go.Proofs.YtcjalpegffldaaaGreatDoor
open Go.RowKit
set_option maxRecDepth 100000

namespace Ix
/-- A number without hyphens and blanks, in small letters. -/
def plainB : By → By
  | [] => []
  | c :: r => if c = 45 ∨ c = 32 then plainB r
    else if c = 194 ∧ r.head? = some 160 then plainB r.tail
    else if 65 ≤ c.toNat ∧ c.toNat ≤ 90 then (c + 32) :: plainB r
    else c :: plainB r
termination_by l => l.length
decreasing_by all_goals simp <;> omega
theorem plainB_nil : plainB [] = [] := by rw [plainB]
theorem plainB_cons (c : UInt8) (r : By) : plainB (c :: r) = if c = 45 ∨ c = 32 then plainB r
    else if c = 194 ∧ r.head? = some 160 then plainB r.tail
    else if 65 ≤ c.toNat ∧ c.toNat ≤ 90 then (c + 32) :: plainB r
    else c :: plainB r := by rw [plainB]
theorem drop_at {s : ByteArray} {k : Nat} (h : k < s.size) : s.data.toList.drop k = s[k]'h :: s.data.toList.drop (k + 1) := by
  have h' : k < s.data.toList.length := by rw [← Lib.size_eq]; exact h
  rw [List.drop_eq_getElem_cons h']
  rfl
theorem kn {c : UInt8} {n : Nat} (_hn : n < 256) (h : c ≠ UInt8.ofNat n) : (c.toNat : Int) ≠ (n : Int) := fun e => h (by
  have e2 : c.toNat = n := by omega
  rw [← e2, UInt8.ofNat_toNat])
theorem ext_eq (s : ByteArray) (a b : Nat) : (⟨((s.data.toList.drop a).take (b - a)).toArray⟩ : ByteArray) = s.extract a b := by
  apply ByteArray.ext
  apply Array.toList_inj.1
  rw [Lib.extract_data]
theorem app_one {s : ByteArray} {k : Nat} {c : UInt8} {out : By} (h : (⟨[c].toArray⟩ : ByteArray) = s.extract k (k + 1)) : Value.string (⟨out.toArray⟩ ++ s.extract k (k + 1)) = Value.string ⟨(out ++ [c]).toArray⟩ := by
  rw [← h]
  congr 1
theorem app_byte {c : UInt8} {out : By} : Value.string ((⟨out.toArray⟩ : ByteArray) ++ ⟨[c].toArray⟩) = Value.string ⟨(out ++ [c]).toArray⟩ := by
  congr 1
end Ix
theorem byte_string (w : World) (c : UInt8) (v : Int) (hv : v = (c.toNat : Int)) : (convert 98 9 (.slice (some ⟨w.heap.size, 0, none⟩) 1 1)).run Tryz.prog (w.alloc (.cells #[.int .u8 v] 5)) = .ok (.string ⟨[c].toArray⟩) (w.alloc (.cells #[.int .u8 v] 5)) :=
  run_convert_bytes_back (P := Tryz.prog) (w.alloc (.cells #[.int .u8 v] 5)) 98 9 5 ⟨w.heap.size, 0, none⟩ 1 [c] Tryz.underlying98 Tryz.underlying5 Tryz.underlying9 (fun j hj => by
    have : j = 0 := by simp at hj; omega
    subst this
    exact Tx.cell_one_at _ _ rfl _ _ 0 _ (by rw [hv]; rfl))

set_option maxHeartbeats 1600000 in
theorem r20_plain_c (s : ByteArray) (w : World) (hs : s.size ≤ 1000000) :
    Calls Tryz.prog 46 #[.string s] w fun e w' => e = .returned (.string ⟨(Ix.plainB s.data.toList).toArray⟩) ∧ Below w.heap.size w w' := by
  go_enter Tryz.func46, Tryz.ntmps46
  go_wp2
  go_loopw [3, 4] (fun v i wr => ∃ (k : Nat) (out : List UInt8), k ≤ s.size ∧ v = .string ⟨out.toArray⟩ ∧ i = .int .i64 k ∧ Hid (out ++ Ix.plainB (s.data.toList.drop k) = Ix.plainB s.data.toList) ∧ out.length ≤ k ∧ Below w.heap.size w wr) (fun _ i _ => s.size - (intOf i).toNat)
  case atStart => exact ⟨0, [], Nat.zero_le _, rfl, rfl, Lib.hid (by rw [List.drop_zero]; rfl), Nat.zero_le _, Below.refl _ _⟩
  case round =>
    obtain ⟨k, out, hk, rfl, rfl, hT, hol, hb⟩ := hrel
    have hbs := hb.size
    by_cases hlt : k < s.size
    · have hdr := Ix.drop_at hlt
      obtain ⟨c, hc⟩ : ∃ c, s[k]'hlt = c := ⟨_, rfl⟩
      rw [hc] at hdr
      have hcc : ∀ h, s[k]'h = c := fun _ => hc
      clear hc
      have hP := Ix.plainB_cons c (s.data.toList.drop (k + 1))
      have HT := Lib.hid hT.out
      rw [hdr] at HT
      have HT2 := Lib.hid HT.out; clear HT hT
      have hx1 := Ix.ext_eq s k (k + 1)
      rw [hdr, Nat.add_sub_cancel_left, List.take_succ_cons, List.take_zero] at hx1
      have HX1 := Lib.hid hx1; clear hx1 hdr
      by_cases c45 : c = 45
      · subst c45
        rw [if_pos (.inl rfl)] at hP
        have HN : Hid (out ++ Ix.plainB (s.data.toList.drop (k + 1)) = Ix.plainB s.data.toList) := Lib.hid (by rw [← HT2.out, hP])
        clear hP
        go_wp2
        go_roundw
        case rel => exact ⟨k + 1, out, hlt, rfl, by go_num, HN, by omega, hb⟩
        case measure => simp [intOf]; omega
      by_cases c32 : c = 32
      · subst c32
        rw [if_pos (.inr rfl)] at hP
        have HN : Hid (out ++ Ix.plainB (s.data.toList.drop (k + 1)) = Ix.plainB s.data.toList) := Lib.hid (by rw [← HT2.out, hP])
        clear hP
        go_wp2
        go_roundw
        case rel => exact ⟨k + 1, out, hlt, rfl, by go_num, HN, by omega, hb⟩
        case measure => simp [intOf]; omega
      have n45 : ((c.toNat : Int) == 45) = false := beq_eq_false_iff_ne.2 (Ix.kn (n := 45) (by decide) c45)
      have n32 : ((c.toNat : Int) == 32) = false := beq_eq_false_iff_ne.2 (Ix.kn (n := 32) (by decide) c32)
      rw [if_neg (by rintro (h | h); exact c45 h; exact c32 h)] at hP
      by_cases c194 : c = 194
      · subst c194
        by_cases hlt2 : k + 1 < s.size
        · have hdr2 := Ix.drop_at hlt2
          obtain ⟨d, hd⟩ : ∃ d, s[k + 1]'hlt2 = d := ⟨_, rfl⟩
          rw [hd] at hdr2
          have hdd : ∀ h, s[k + 1]'h = d := fun _ => hd
          clear hd
          have hw := IntWalk.i64_in ((k : Int) + 1) ⟨by omega, by omega⟩
          have hlt3 : (k : Int) + 1 < (s.size : Int) := by omega
          by_cases d160 : d = 160
          · subst d160
            rw [hdr2, if_pos ⟨rfl, rfl⟩] at hP
            have HN : Hid (out ++ Ix.plainB (s.data.toList.drop (k + 2)) = Ix.plainB s.data.toList) := Lib.hid (by rw [← HT2.out, hdr2, hP]; rfl)
            clear hP hdr2
            go_wp2
            go_roundw
            case rel => exact ⟨k + 2, out, hlt2, rfl, by go_num, HN, by omega, hb⟩
            case measure => simp [intOf]; omega
          · have n160 : ((d.toNat : Int) == 160) = false := beq_eq_false_iff_ne.2 (Ix.kn (n := 160) (by decide) d160)
            rw [if_neg (by rintro ⟨_, h⟩; rw [hdr2] at h; exact d160 (by simpa using h)), if_neg (by decide)] at hP
            have HN : Hid ((out ++ [194]) ++ Ix.plainB (s.data.toList.drop (k + 1)) = Ix.plainB s.data.toList) := Lib.hid (by rw [← HT2.out, hP, List.append_assoc]; rfl)
            clear hP hdr2
            go_wp2
            go_roundw
            case rel => exact ⟨k + 1, out ++ [194], hlt, Ix.app_one HX1.out, by go_num, HN, by rw [List.length_append]; simp; omega, hb⟩
            case measure => simp [intOf]; omega
        · rw [if_neg (by rintro ⟨_, h⟩; rw [List.drop_eq_nil_of_le (by rw [← Lib.size_eq]; omega)] at h; cases h), if_neg (by decide)] at hP
          have HN : Hid ((out ++ [194]) ++ Ix.plainB (s.data.toList.drop (k + 1)) = Ix.plainB s.data.toList) := Lib.hid (by rw [← HT2.out, hP, List.append_assoc]; rfl)
          have hw := IntWalk.i64_in ((k : Int) + 1) ⟨by omega, by omega⟩
          have hlt3 : ¬ (k : Int) + 1 < (s.size : Int) := by omega
          clear hP
          go_wp2
          go_roundw
          case rel => exact ⟨k + 1, out ++ [194], hlt, Ix.app_one HX1.out, by go_num, HN, by rw [List.length_append]; simp; omega, hb⟩
          case measure => simp [intOf]; omega
      · have n194 : ((c.toNat : Int) == 194) = false := beq_eq_false_iff_ne.2 (Ix.kn (n := 194) (by decide) c194)
        rw [if_neg (by rintro ⟨h, _⟩; exact c194 h)] at hP
        by_cases hup : 65 ≤ c.toNat ∧ c.toNat ≤ 90
        · rw [if_pos hup] at hP
          have HN : Hid ((out ++ [c + 32]) ++ Ix.plainB (s.data.toList.drop (k + 1)) = Ix.plainB s.data.toList) := Lib.hid (by rw [← HT2.out, hP, List.append_assoc]; rfl)
          have hcv := byte_string wr (c + 32) ((c.toNat : Int) + 32) (by rw [UInt8.toNat_add]; simp; omega)
          have hu1 : (65 : Int) ≤ (c.toNat : Int) := by omega
          have hu2 : (c.toNat : Int) ≤ 90 := by omega
          clear hP
          go_wp2
          go_roundw
          case rel => exact ⟨k + 1, out ++ [c + 32], hlt, Ix.app_byte, by go_num, HN, by rw [List.length_append]; simp; omega, hb.alloc hbs _⟩
          case measure => simp [intOf]; omega
        · rw [if_neg hup] at hP
          have HN : Hid ((out ++ [c]) ++ Ix.plainB (s.data.toList.drop (k + 1)) = Ix.plainB s.data.toList) := Lib.hid (by rw [← HT2.out, hP, List.append_assoc]; rfl)
          clear hP
          by_cases h65 : 65 ≤ c.toNat
          · have hu1 : (65 : Int) ≤ (c.toNat : Int) := by omega
            have hu2 : ¬ (c.toNat : Int) ≤ 90 := by omega
            go_wp2
            go_roundw
            case rel => exact ⟨k + 1, out ++ [c], hlt, Ix.app_one HX1.out, by go_num, HN, by rw [List.length_append]; simp; omega, hb⟩
            case measure => simp [intOf]; omega
          · have hu1 : ¬ (65 : Int) ≤ (c.toNat : Int) := by omega
            go_wp2
            go_roundw
            case rel => exact ⟨k + 1, out ++ [c], hlt, Ix.app_one HX1.out, by go_num, HN, by rw [List.length_append]; simp; omega, hb⟩
            case measure => simp [intOf]; omega
    · obtain rfl : k = s.size := by omega
      have hd : s.data.toList.drop s.size = [] := List.drop_eq_nil_of_le (by rw [← Lib.size_eq]; exact Nat.le_refl _)
      have h8 := hT.out
      rw [hd, Ix.plainB_nil, List.append_nil] at h8
      go_wp2
      go_ret
      exact ⟨Tx.rets (by rw [h8]), hb⟩
end Go.Proofs.YtcjalpegffldaaaGreatDoor

/- The reference's Terms: what the call returns. -/
namespace Go.Proofs.YtcjalpegffldaaaGreatDoor
open Go.RowKit
set_option maxRecDepth 100000

namespace Ix
open Rc
def authB (f : Fl) : Bool := tagIs [49, 48, 48] f || tagIs [49, 49, 48] f || tagIs [55, 48, 48] f || tagIs [55, 49, 48] f
def numB (f : Fl) : Bool := tagIs [48, 50, 48] f || tagIs [48, 50, 50] f
/-- The numbers of a field. -/
def numF (f : Fl) : List By := ((allV f.subs [97]).map fun s => plainB s.data.toList).filter fun x => !(x == [])
def term (fs : List Fl) : Nat → List By
  | 1 => pick (tagIs [50, 52, 53]) [97, 98, 110, 112] fs ++ pick (tagIs [50, 52, 54]) [97, 98] fs
  | 2 => pick authB [97] fs
  | 3 => pick (begB 54) [97, 120, 121, 122] fs
  | 4 => (fs.filter numB).flatMap numF
  | _ => []
/-- The terms of a searchable field. -/
def terms (fs : List Fl) (fld : Int) : List By :=
  if fld = 0 then (((term fs 1 ++ term fs 2) ++ term fs 3) ++ term fs 4) ++ pick (begB 53) [97] fs
  else if 1 ≤ fld ∧ fld ≤ 4 then term fs fld.toNat else []
theorem pick_len {p : Fl → Bool} {codes : By} {fs : List Fl} (h : Mod fs) : (pick p codes fs).length ≤ 20000 := by
  have h1 := pick_le (p := p) (codes := codes) (fs := fs) (fun g hg => h.words g hg _)
  have := h.len
  omega
end Ix

set_option maxHeartbeats 3200000 in
theorem r20_Terms_3 (fs : List Rc.Fl) (a : Option Addr) (c : Nat) (id ver kind : Int) (lang : ByteArray) (w : World) (h : Rc.FldA w a c fs) (hM : Ix.Mod fs) :
    Calls Tryz.prog 13 #[.agg #[.int .i64 id, .int .i64 ver, .int .i64 kind, .string lang, .slice a fs.length c], .int .i64 3] w fun e w' => ∃ v, e = .returned v ∧ Ix.OwnT w' w.heap.size v (Ix.term fs 3) ∧ Below w.heap.size w w' := by
  obtain ⟨W, hW⟩ : ∃ W, w.alloc (.cells #[.int .i64 id, .int .i64 ver, .int .i64 kind, .string lang, .slice a fs.length c] 24) = W := ⟨_, rfl⟩
  have hB : Below w.heap.size w W := by rw [← hW]; exact Tx.newb _ _
  have KR : Hid (W.heap[w.heap.size]? = some (.cells #[.int .i64 id, .int .i64 ver, .int .i64 kind, .string lang, .slice a fs.length c] 24)) := Lib.hid (by rw [← hW]; exact heap_alloc_new w _)
  have c0 : W.cell? ⟨w.heap.size, 0, none⟩ = some (.int .i64 id) := by rw [← hW]; simp
  have c1 : W.cell? ⟨w.heap.size, 1, none⟩ = some (.int .i64 ver) := by rw [← hW]; simp
  have c2 : W.cell? ⟨w.heap.size, 2, none⟩ = some (.int .i64 kind) := by rw [← hW]; simp
  have c3 : W.cell? ⟨w.heap.size, 3, none⟩ = some (.string lang) := by rw [← hW]; simp
  have c4 : W.cell? ⟨w.heap.size, 4, none⟩ = some (.slice a fs.length c) := by rw [← hW]; simp
  have HS := Lib.hid (h.below hB); clear h
  have hbB := hB.size
  have CB : Hid (Calls Tryz.prog 44 #[.agg #[.int .i64 id, .int .i64 ver, .int .i64 kind, .string lang, .slice a fs.length c], .int .u8 54, .string ⟨#[97, 120, 121, 122]⟩] W fun e w' => ∃ v, e = .returned v ∧ Ix.OwnT w' W.heap.size v (Ix.pick (Ix.begB 54) [97, 120, 121, 122] fs) ∧ Below W.heap.size W w') := Lib.hid (r20_begun_c fs a c id ver kind lang 54 ⟨#[97, 120, 121, 122]⟩ W HS.out hM (by decide))
  go_enter Tryz.func13, Tryz.ntmps13
  go_wp2_with (go_at_call 44; ((with_reducible refine CB.out.mono ?_); rintro e w1 ⟨v, rfl, hown, hb1⟩))
  go_ret
  exact ⟨_, rfl, Ix.own_lower hown hbB, Tx.step hB hb1⟩

set_option maxHeartbeats 3200000 in
theorem r20_Terms_1 (fs : List Rc.Fl) (a : Option Addr) (c : Nat) (id ver kind : Int) (lang : ByteArray) (w : World) (h : Rc.FldA w a c fs) (hM : Ix.Mod fs) :
    Calls Tryz.prog 13 #[.agg #[.int .i64 id, .int .i64 ver, .int .i64 kind, .string lang, .slice a fs.length c], .int .i64 1] w fun e w' => ∃ v, e = .returned v ∧ Ix.OwnT w' w.heap.size v (Ix.term fs 1) ∧ Below w.heap.size w w' := by
  obtain ⟨W, hW⟩ : ∃ W, w.alloc (.cells #[.int .i64 id, .int .i64 ver, .int .i64 kind, .string lang, .slice a fs.length c] 24) = W := ⟨_, rfl⟩
  have hB : Below w.heap.size w W := by rw [← hW]; exact Tx.newb _ _
  have KR : Hid (W.heap[w.heap.size]? = some (.cells #[.int .i64 id, .int .i64 ver, .int .i64 kind, .string lang, .slice a fs.length c] 24)) := Lib.hid (by rw [← hW]; exact heap_alloc_new w _)
  have c0 : W.cell? ⟨w.heap.size, 0, none⟩ = some (.int .i64 id) := by rw [← hW]; simp
  have c1 : W.cell? ⟨w.heap.size, 1, none⟩ = some (.int .i64 ver) := by rw [← hW]; simp
  have c2 : W.cell? ⟨w.heap.size, 2, none⟩ = some (.int .i64 kind) := by rw [← hW]; simp
  have c3 : W.cell? ⟨w.heap.size, 3, none⟩ = some (.string lang) := by rw [← hW]; simp
  have c4 : W.cell? ⟨w.heap.size, 4, none⟩ = some (.slice a fs.length c) := by rw [← hW]; simp
  have HS := Lib.hid (h.below hB); clear h
  have hbB := hB.size
  have CT : Hid (∀ w', Below W.heap.size W w' → ∀ (tag codes : ByteArray), codes.size ≤ 1000 → Calls Tryz.prog 42 #[.agg #[.int .i64 id, .int .i64 ver, .int .i64 kind, .string lang, .slice a fs.length c], .string tag, .string codes] w' fun e w'' => ∃ v, e = .returned v ∧ Ix.OwnT w'' w'.heap.size v (Ix.pick (Rc.tagIs tag.data.toList) codes.data.toList fs) ∧ Below w'.heap.size w' w'') := Lib.hid (fun w' hb tag codes hc => r20_tagged_c fs a c id ver kind lang tag codes w' (HS.out.below hb) hM hc)
  have L1 := Ix.pick_len (p := Rc.tagIs [50, 52, 53]) (codes := [97, 98, 110, 112]) hM
  have L2 := Ix.pick_len (p := Rc.tagIs [50, 52, 54]) (codes := [97, 98]) hM
  go_enter Tryz.func13, Tryz.ntmps13
  go_wp2
  go_region_with (first
    | (go_at_call 41; ((with_reducible refine (r20_joined_c (Ix.pick (Rc.tagIs [50, 52, 53]) [97, 98, 110, 112] fs) (Ix.pick (Rc.tagIs [50, 52, 54]) [97, 98] fs) a1 a2 d1 d2 _ (HX.out.below hb2) HY.out (by omega)).mono ?_); rintro e w3 ⟨v3, rfl, hown3, hb3⟩))
    | (go_at_call 42; ((with_reducible refine (CT.out _ hb1 ⟨#[50, 52, 54]⟩ ⟨#[97, 98]⟩ (by decide)).mono ?_); rintro e w2 ⟨v2, rfl, hown2, hb2⟩; obtain ⟨a2, d2, rfl, hs2⟩ := Ix.own_sla hown2; have HY := Lib.hid hs2; clear hs2 hown2; have e0 := cell_later hb2 e0; have k2 := Tx.step hb1 hb2))
    | (go_at_call 42; ((with_reducible refine (CT.out _ (Below.refl _ _).drew ⟨#[50, 52, 53]⟩ ⟨#[97, 98, 110, 112]⟩ (by decide)).mono ?_); rintro e w1 ⟨v1, rfl, hown1, hb1'⟩; have hb1 : Below W.heap.size W w1 := ((Below.refl _ _).drew).trans hb1'; obtain ⟨a1, d1, rfl, hs1⟩ := Ix.own_sla hown1; have HX := Lib.hid hs1; clear hs1 hown1; have e0 := cell_later hb1 c0; have e1 := cell_later hb1 c1; have e2 := cell_later hb1 c2; have e3 := cell_later hb1 c3; have e4 := cell_later hb1 c4)))
  all_goals
    go_wp2
    go_ret
    exact ⟨_, rfl, Ix.own_lower hown3 (by have := (Tx.step (Tx.step hB hb1) hb2).size; omega), Tx.step (Tx.step (Tx.step hB hb1) hb2) hb3⟩
end Go.Proofs.YtcjalpegffldaaaGreatDoor
