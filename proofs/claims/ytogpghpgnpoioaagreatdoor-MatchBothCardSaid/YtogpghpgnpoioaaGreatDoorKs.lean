/- Plain: the pairs as the program collects them, and as the chapter defines them. -/
import Derived.Test.YtogpghpgnpoioaaGreatDoorKr
import Derived.Deep.RegionLaw
import Derived.Deep.DeepCutAuto
namespace Go.Proofs.YtogpghpgnpoioaaGreatDoor
set_option maxRecDepth 100000

namespace Mt
open Rc
/-- What one record gives with those behind it. -/
def rowS (m : Rule) (a b : Rd) : List (Int × Int) := if m.need ≤ score m a b then [(min a.id b.id, max a.id b.id)] else []
def rowN (m : Rule) (a : Rd) (r : List Rd) : List (Int × Int) := r.flatMap (rowS m a)
def rowsP (m : Rule) (l : List Rd) (k : Nat) : List (Int × Int) := (List.range k).flatMap fun i => match l[i]? with | some a => rowN m a (l.drop (i + 1)) | none => []
theorem rowN_succ (m : Rule) (a : Rd) {r : List Rd} {j : Nat} {b : Rd} (h : r[j]? = some b) : rowN m a (r.take (j + 1)) = rowN m a (r.take j) ++ rowS m a b := by
  unfold rowN
  rw [List.take_add_one, h, List.flatMap_append]
  simp
theorem rowsP_succ (m : Rule) {l : List Rd} {k : Nat} {a : Rd} (h : l[k]? = some a) : rowsP m l (k + 1) = rowsP m l k ++ rowN m a (l.drop (k + 1)) := by
  unfold rowsP
  rw [List.range_succ, List.flatMap_append]
  simp [h]
theorem rowN_len (m : Rule) (a : Rd) : ∀ r : List Rd, (rowN m a r).length ≤ r.length
  | [] => by simp [rowN]
  | b :: r => by
    have ih := rowN_len m a r
    have e : rowN m a (b :: r) = rowS m a b ++ rowN m a r := rfl
    have h1 : (rowS m a b).length ≤ 1 := by unfold rowS; split <;> simp
    rw [e, List.length_append, List.length_cons]
    omega
theorem mem_rowN {m : Rule} {a : Rd} {r : List Rd} {z : Int × Int} : z ∈ rowN m a r ↔ ∃ b ∈ r, m.need ≤ score m a b ∧ z = (min a.id b.id, max a.id b.id) := by
  unfold rowN
  rw [List.mem_flatMap]
  constructor
  · rintro ⟨b, hb, h⟩
    unfold rowS at h
    split at h
    · exact ⟨b, hb, by assumption, by simpa using h⟩
    · cases h
  · rintro ⟨b, hb, h1, h2⟩
    exact ⟨b, hb, by unfold rowS; rw [if_pos h1, h2]; simp⟩
theorem mem_rowsP {m : Rule} {l : List Rd} {n : Nat} {z : Int × Int} : z ∈ rowsP m l n ↔ ∃ (i j : Nat) (a b : Rd), i < n ∧ i < j ∧ l[i]? = some a ∧ l[j]? = some b ∧ m.need ≤ score m a b ∧ z = (min a.id b.id, max a.id b.id) := by
  unfold rowsP
  rw [List.mem_flatMap]
  constructor
  · rintro ⟨i, hi, h⟩
    rw [List.mem_range] at hi
    cases ha : l[i]? with
    | none => rw [ha] at h; cases h
    | some a =>
      rw [ha] at h
      obtain ⟨b, hb, h1, h2⟩ := mem_rowN.1 h
      obtain ⟨j, hj, e⟩ := List.getElem_of_mem hb
      rw [List.getElem_drop] at e
      have hj2 : i + 1 + j < l.length := by rw [List.length_drop] at hj; omega
      exact ⟨i, i + 1 + j, a, b, hi, by omega, ha, by rw [← e]; exact List.getElem?_eq_getElem hj2, h1, h2⟩
  · rintro ⟨i, j, a, b, hi, hij, ha, hb, h1, h2⟩
    refine ⟨i, List.mem_range.2 hi, ?_⟩
    rw [ha]
    refine mem_rowN.2 ⟨b, ?_, h1, h2⟩
    have : (l.drop (i + 1))[j - (i + 1)]? = some b := by rw [List.getElem?_drop, show i + 1 + (j - (i + 1)) = j by omega]; exact hb
    exact List.mem_of_getElem? this
theorem ids_ne {l : List Rd} (hn : (ids l).Nodup) {i j : Nat} {a b : Rd} (ha : l[i]? = some a) (hb : l[j]? = some b) (h : i ≠ j) : a.id ≠ b.id := by
  intro e
  rcases (by omega : i < j ∨ j < i) with h1 | h1
  · exact not_nodup hb ha h1 e.symm hn
  · exact not_nodup ha hb h1 e hn
theorem rows_same {m : Rule} {l : List Rd} (hn : (ids l).Nodup) (z : Int × Int) : z ∈ rowsP m l l.length ↔ z ∈ hitsP m l := by
  rw [mem_rowsP]
  unfold hitsP
  rw [List.mem_flatMap]
  constructor
  · rintro ⟨i, j, a, b, hi, hij, ha, hb, h1, rfl⟩
    have hne := ids_ne hn ha hb (by omega)
    rcases (by omega : a.id < b.id ∨ b.id < a.id) with h | h
    · refine ⟨a, List.mem_of_getElem? ha, List.mem_map.2 ⟨b, List.mem_filter.2 ⟨List.mem_of_getElem? hb, by simp [h, h1]⟩, ?_⟩⟩
      rw [Int.min_eq_left (by omega), Int.max_eq_right (by omega)]
    · refine ⟨b, List.mem_of_getElem? hb, List.mem_map.2 ⟨a, List.mem_filter.2 ⟨List.mem_of_getElem? ha, ?_⟩, ?_⟩⟩
      · rw [score_comm] at h1; simp [h, h1]
      · rw [Int.min_eq_right (by omega), Int.max_eq_left (by omega)]
  · rintro ⟨a, ha, h⟩
    obtain ⟨b, hb, rfl⟩ := List.mem_map.1 h
    obtain ⟨hb1, hb2⟩ := List.mem_filter.1 hb
    simp only [Bool.and_eq_true, decide_eq_true_eq] at hb2
    obtain ⟨i, hi, ei⟩ := List.getElem_of_mem ha
    obtain ⟨j, hj, ej⟩ := List.getElem_of_mem hb1
    have gi : l[i]? = some a := by rw [← ei]; exact List.getElem?_eq_getElem hi
    have gj : l[j]? = some b := by rw [← ej]; exact List.getElem?_eq_getElem hj
    have hij : i ≠ j := fun e => by
      subst e
      rw [gi] at gj
      injection gj with gj
      rw [gj] at hb2
      omega
    rcases (by omega : i < j ∨ j < i) with h1 | h1
    · exact ⟨i, j, a, b, hi, h1, gi, gj, hb2.2, by rw [Int.min_eq_left (by omega), Int.max_eq_right (by omega)]⟩
    · exact ⟨j, i, b, a, hj, h1, gj, gi, by rw [score_comm]; exact hb2.2, by rw [Int.min_eq_right (by omega), Int.max_eq_left (by omega)]⟩
theorem pair_ne {a x y : Int} (h : x ≠ y) : (min a x, max a x) ≠ (min a y, max a y) := by
  intro e
  injection e with e1 e2
  omega
theorem rowN_nodup (m : Rule) (a : Rd) : ∀ r : List Rd, (ids r).Nodup → (rowN m a r).Nodup
  | [], _ => by simp [rowN]
  | b :: r, h => by
    rw [show ids (b :: r) = b.id :: ids r from rfl, List.nodup_cons] at h
    have ih := rowN_nodup m a r h.2
    have e : rowN m a (b :: r) = rowS m a b ++ rowN m a r := rfl
    rw [e]
    unfold rowS
    split
    · rw [List.singleton_append, List.nodup_cons]
      refine ⟨fun hz => ?_, ih⟩
      obtain ⟨c, hc, _, h2⟩ := mem_rowN.1 hz
      refine pair_ne (fun e => ?_) h2
      exact h.1 (by rw [e]; exact List.mem_map.2 ⟨c, hc, rfl⟩)
    · simpa using ih
theorem rowsP_nodup (m : Rule) {l : List Rd} (hn : (ids l).Nodup) (n : Nat) : (rowsP m l n).Nodup := by
  unfold rowsP
  rw [List.Nodup, List.pairwise_flatMap]
  constructor
  · intro i _
    cases ha : l[i]? with
    | none => exact List.Pairwise.nil
    | some a =>
      refine rowN_nodup m a _ ?_
      unfold ids
      rw [List.map_drop]
      exact hn.sublist (List.drop_sublist _ _)
  · refine List.pairwise_lt_range.imp ?_
    intro i i' hii x hx y hy e
    subst e
    cases ha : l[i]? with
    | none => rw [ha] at hx; cases hx
    | some a =>
      cases ha' : l[i']? with
      | none => rw [ha'] at hy; cases hy
      | some a' =>
        rw [ha] at hx
        rw [ha'] at hy
        obtain ⟨b, hb, _, rfl⟩ := mem_rowN.1 hx
        obtain ⟨b', hb', _, h2⟩ := mem_rowN.1 hy
        obtain ⟨j', hj', e'⟩ := List.getElem_of_mem hb'
        rw [List.getElem_drop] at e'
        have hl : i' + 1 + j' < l.length := by rw [List.length_drop] at hj'; omega
        have g' : l[i' + 1 + j']? = some b' := by rw [← e']; exact List.getElem?_eq_getElem hl
        have n1 := ids_ne hn ha ha' (by omega)
        have n2 := ids_ne hn ha g' (by omega)
        injection h2 with e1 e2
        omega
theorem pairs_rows (m : Rule) {l : List Rd} (hn : (ids l).Nodup) : Cp.puts ltP (rowsP m l l.length) = pairs m l :=
  Cp.puts_of ordP (Cp.puts_asc ordP _) fun z => by rw [Cp.puts_mem]; exact rows_same hn z
end Mt
end Go.Proofs.YtogpghpgnpoioaaGreatDoor

/- The program's Pairs: what the call returns. -/
namespace Go.Proofs.YtogpghpgnpoioaaGreatDoor
open Go.RowKit
set_option maxRecDepth 100000

namespace Mt
/-- A record in a block of its own. -/
structure Box (w : World) (A : Nat) (x : Rc.Rd) (fa : Option Addr) (fc : Nat) : Prop where
  c0 : w.cell? ⟨A, 0, none⟩ = some (.int .i64 x.id)
  c1 : w.cell? ⟨A, 1, none⟩ = some (.int .i64 x.ver)
  c2 : w.cell? ⟨A, 2, none⟩ = some (.int .i64 x.kind)
  c3 : w.cell? ⟨A, 3, none⟩ = some (.string x.lang)
  c4 : w.cell? ⟨A, 4, none⟩ = some (.slice fa x.fields.length fc)
theorem Box.below {w w' : World} {A : Nat} {x : Rc.Rd} {fa : Option Addr} {fc : Nat} (h : Box w A x fa fc) (hb : Below w.heap.size w w') : Box w' A x fa fc :=
  ⟨cell_later hb h.c0, cell_later hb h.c1, cell_later hb h.c2, cell_later hb h.c3, cell_later hb h.c4⟩
theorem Box.grown {w w' : World} {A : Nat} {x : Rc.Rd} {fa : Option Addr} {fc : Nat} {row : Option Nat} (h : Box w A x fa fc) (hg : w.grownBy w' row) (hr : row ≠ some A) : Box w' A x fa fc :=
  ⟨hg.cell h.c0 (fun e => hr e.symm), hg.cell h.c1 (fun e => hr e.symm), hg.cell h.c2 (fun e => hr e.symm), hg.cell h.c3 (fun e => hr e.symm), hg.cell h.c4 (fun e => hr e.symm)⟩
theorem Box.new (w : World) (x : Rc.Rd) (fa : Option Addr) (fc : Nat) : Box (w.alloc (.cells #[.int .i64 x.id, .int .i64 x.ver, .int .i64 x.kind, .string x.lang, .slice fa x.fields.length fc] 33)) w.heap.size x fa fc :=
  ⟨by simp, by simp, by simp, by simp, by simp⟩
end Mt

set_option maxHeartbeats 3200000 in
theorem match_Pairs_c (m : Mt.Rule) (ka : Option Addr) (kc : Nat) (l : List Rc.Rd) (la : Option Addr) (lc : Nat) (w : World) (hGw : G w) (hK : Mt.KyA w ka kc m.keys) (hm : Mt.Gm m)
    (hl : Rc.RdA w la lc l) (hG : ∀ x ∈ l, Mt.Gf x.fields) (hn : (Mt.ids l).Nodup) (hll : l.length ≤ 1000) :
    Calls Tryz.prog 26 #[.agg #[.slice ka m.keys.length kc, .int .i64 m.need], .slice la l.length lc] w fun e w' => ∃ v, e = .returned v ∧ w'.ownsRow w.heap.size 59 2 v (Mt.pairs m l).length ((Mt.pairs m l).flatMap Mt.enc2) ∧ Below w.heap.size w w' := by
  have hml : maxLen = 9223372036854775807 := rfl
  obtain ⟨i0, hi0, hz0, hz1, hz2⟩ := info_parts info_pair
  obtain ⟨W, hW⟩ : ∃ W, w.alloc (.cells #[.slice ka m.keys.length kc, .int .i64 m.need] 24) = W := ⟨_, rfl⟩
  have hB : Below w.heap.size w W := by rw [← hW]; exact Tx.newb w _
  have hWs : W.heap.size = w.heap.size + 1 := by rw [← hW]; simp
  have m0 : W.cell? ⟨w.heap.size, 0, none⟩ = some (.slice ka m.keys.length kc) := by rw [← hW]; simp
  have m1 : W.cell? ⟨w.heap.size, 1, none⟩ = some (.int .i64 m.need) := by rw [← hW]; simp
  have HL := Lib.hid (hl.below hB)
  have HK := Lib.hid (hK.below hB)
  have HGW := Lib.hid (hGw.below hB)
  have HG := Lib.hid hG
  have HM := Lib.hid hm
  have HN := Lib.hid hn
  have hcap := hl.cap
  have hmax := hl.max
  have HWS := Lib.hid hWs
  clear hl hK hGw hG hm hn hWs
  go_enter Tryz.func26, Tryz.ntmps26
  go_wp2
  clear hW
  go_loopw [5, 12] (fun v i wr => ∃ (k : Nat) (L : List (Int × Int)), k ≤ l.length ∧ i = .int .i64 k ∧ Hid (L = Mt.rowsP m l k) ∧ L.length ≤ k * 1000 ∧ Hid (wr.ownsRow W.heap.size 59 2 v L.length (L.flatMap Mt.enc2)) ∧ Below W.heap.size W wr) (fun _ i _ => l.length - (intOf i).toNat)
  case atStart => exact ⟨0, [], Nat.zero_le _, rfl, Lib.hid rfl, Nat.zero_le _, Lib.hid (World.ownsRow_nil _ _ _ _), Below.refl _ _⟩
  case round =>
    obtain ⟨k, L, hk, rfl, hL, hLk, hown, hb⟩ := hrel
    have hbs := hb.size
    have hl0 : w.heap.size < wr.heap.size := by have := HWS.out; omega
    by_cases hlt : k < l.length
    · obtain ⟨x, hx⟩ : ∃ x, l[k]? = some x := ⟨_, List.getElem?_eq_getElem hlt⟩
      obtain ⟨b, o, fa, fc, rfl, hbl, x0, x1, x2, x3, x4, hfx⟩ := HL.out.get hx
      replace x0 := cell_later hb x0
      replace x1 := cell_later hb x1
      replace x2 := cell_later hb x2
      replace x3 := cell_later hb x3
      replace x4 := cell_later hb x4
      have hst := Mt.rowsP_succ m hx
      rw [← hL.out] at hst
      have HST := Lib.hid hst
      have HFX := Lib.hid hfx
      have HX := Lib.hid hx
      have hbU : Below W.heap.size W (wr.alloc (.cells #[.int .i64 x.id, .int .i64 x.ver, .int .i64 x.kind, .string x.lang, .slice fa x.fields.length fc] 33)) := hb.alloc hbs _
      have hBx := Lib.hid (Mt.Box.new wr x fa fc)
      have HOU := Lib.hid (hown.out.alloc (.cells #[.int .i64 x.id, .int .i64 x.ver, .int .i64 x.kind, .string x.lang, .slice fa x.fields.length fc] 33))
      have hlk := Lib.hid (fun j (hj : j < wr.heap.size + 1) => hj)
      have hne := Lib.hid (fun j h => (hown.out.lt j h).2)
      clear hst hfx hx hL hown hlk
      have hk1 : ((k : Int) + 1) ≤ (l.length : Int) := by omega
      have hk2 : ((k : Int) + 1) ≤ (lc : Int) := by omega
      have hA0 : wr.heap.size < (wr.alloc (.cells #[.int .i64 x.id, .int .i64 x.ver, .int .i64 x.kind, .string x.lang, .slice fa x.fields.length fc] 33)).heap.size := by simp
      have hneA := hne.out wr.heap.size
      rcases (by omega : k + 1 = lc ∨ k + 1 < lc) with hkc | hkc
      · have hkn : k + 1 = l.length := by omega
        have HNL : Hid (L = Mt.rowsP m l (k + 1)) := Lib.hid (by rw [HST.out, hkn, List.drop_length]; simp [Mt.rowN])
        subst hkc
        go_wp2
        generalize wr.alloc (.cells #[.int .i64 x.id, .int .i64 x.ver, .int .i64 x.kind, .string x.lang, .slice fa x.fields.length fc] 33) = U at hbU HOU hA0 ⊢
        go_loopw [5, 22] (fun v i wr => i = .int .i64 0 ∧ Hid (wr.ownsRow W.heap.size 59 2 v L.length (L.flatMap Mt.enc2)) ∧ Below W.heap.size W wr) (fun _ _ _ => 0)
        case atStart => exact ⟨rfl, HOU, hbU⟩
        case round =>
          obtain ⟨rfl, ho, hb2⟩ := hrel
          have hz : ¬ (0 : Int) < ((l.length - (k + 1) : Nat) : Int) := by omega
          go_wp2
          go_roundw
          case rel => exact ⟨k + 1, L, hlt, by go_num, HNL, by omega, ho, hb2⟩
          case measure => simp [intOf]; omega
      · have hkc2 : ((k : Int) + 1) < (lc : Int) := by omega
        have hneA2 : ∀ v5 : Value, (∀ j, v5.ownBlock = some j → j < wr.heap.size) → v5.ownBlock ≠ some wr.heap.size := fun v5 h e => by have := h _ e; omega
        have hneB := hneA2 _ hne.out
        clear hneA hneA2
        go_wp2
        generalize wr.alloc (.cells #[.int .i64 x.id, .int .i64 x.ver, .int .i64 x.kind, .string x.lang, .slice fa x.fields.length fc] 33) = U at hbU HOU hA0 hBx ⊢
        clear hne x0 x1 x2 x3 x4
        generalize wr.heap.size = A at *
        go_loopw [5, 22] (fun v i wr => ∃ (j : Nat) (L2 : List (Int × Int)), j ≤ l.length - (k + 1) ∧ i = .int .i64 j ∧ Hid (L2 = L ++ Mt.rowN m x ((l.drop (k + 1)).take j)) ∧ L2.length ≤ k * 1000 + j ∧ Hid (wr.ownsRow W.heap.size 59 2 v L2.length (L2.flatMap Mt.enc2)) ∧ Below W.heap.size W wr ∧ Hid (Mt.Box wr A x fa fc) ∧ A < wr.heap.size ∧ v.ownBlock ≠ some A) (fun _ i _ => l.length - (k + 1) - (intOf i).toNat)
        case atStart => exact ⟨0, L, Nat.zero_le _, rfl, Lib.hid (by simp [Mt.rowN]), by omega, HOU, hbU, hBx, hA0, hneB⟩
        case round =>
          obtain ⟨j, L2, hj, rfl, hL2, hL2k, hown, hb2, hbx1, hA1, hneA⟩ := hrel
          have hb2s := hb2.size
          by_cases hjl : j < l.length - (k + 1)
          · obtain ⟨y, hy⟩ : ∃ y, l[k + 1 + j]? = some y := ⟨_, List.getElem?_eq_getElem (by omega)⟩
            have hyd : (l.drop (k + 1))[j]? = some y := by rw [List.getElem?_drop]; exact hy
            obtain ⟨b2, o2, ga, gc, e2, hbl2, y0, y1, y2, y3, y4, hfy⟩ := HL.out.get hy
            injection e2 with e2
            injection e2 with e2 e3
            subst e2 e3
            have eo : o + (k + 1 + j) * 5 = o + (k + 1) * 5 + j * 5 := by omega
            rw [eo] at y0 y1 y2 y3 y4
            replace y0 := cell_later hb2 y0
            replace y1 := cell_later hb2 y1
            replace y2 := cell_later hb2 y2
            replace y3 := cell_later hb2 y3
            replace y4 := cell_later hb2 y4
            have hrs := Mt.rowN_succ m x hyd
            have hss : Mt.rowN m x ((l.drop (k + 1)).take (j + 1)) = Mt.rowN m x ((l.drop (k + 1)).take j) ++ Mt.rowS m x y := hrs
            have hid := Mt.ids_ne HN.out HX.out hy (by omega)
            obtain ⟨V, hV⟩ : ∃ V, wr.alloc (.cells #[.int .i64 y.id, .int .i64 y.ver, .int .i64 y.kind, .string y.lang, .slice ga y.fields.length gc] 33) = V := ⟨_, rfl⟩
            have hbwV : Below wr.heap.size wr V := by rw [← hV]; exact Tx.newb _ _
            have hbV := Tx.step hb2 hbwV
            have hbVs := hbV.size
            have hVs : V.heap.size = wr.heap.size + 1 := by rw [← hV]; simp
            have ⟨q0, q1, q2, q3, q4⟩ : Mt.Box V wr.heap.size y ga gc := by rw [← hV]; exact Mt.Box.new wr y ga gc
            have HBX := Lib.hid (hbx1.out.below hbwV)
            obtain ⟨p0, p1, p2, p3, p4⟩ := HBX.out
            have n0 := cell_later hbV m0
            have n1 := cell_later hbV m1
            have hov := hown.out.alloc (.cells #[.int .i64 y.id, .int .i64 y.ver, .int .i64 y.kind, .string y.lang, .slice ga y.fields.length gc] 33)
            rw [hV] at hov
            have HOV := Lib.hid hov
            obtain ⟨sc, hsc⟩ : ∃ sc, Mt.score m x y = sc := ⟨_, rfl⟩
            have HSC : Hid (∀ w', Below V.heap.size V w' → Calls Tryz.prog 19 #[.agg #[.slice ka m.keys.length kc, .int .i64 m.need], .agg #[.int .i64 x.id, .int .i64 x.ver, .int .i64 x.kind, .string x.lang, .slice fa x.fields.length fc], .agg #[.int .i64 y.id, .int .i64 y.ver, .int .i64 y.kind, .string y.lang, .slice ga y.fields.length gc]] w' fun e w'' => e = .returned (.int .i64 sc) ∧ Below w'.heap.size w' w'') := Lib.hid (fun w' hb' => by
              have hc := match_Score_c m ka kc x.fields fa fc x.id x.ver x.kind x.lang y.fields ga gc y.id y.ver y.kind y.lang w' ((HGW.out.below hbV).below hb') ((HK.out.below hbV).below hb') HM.out ((HFX.out.below hbV).below hb') (HG.out x (List.mem_of_getElem? HX.out)) ((hfy.below hbV).below hb') (HG.out y (List.mem_of_getElem? hy))
              rw [← Mt.score_sum m x y, hsc] at hc
              exact hc)
            have HSS0 := Lib.hid hss
            have HL2 := Lib.hid hL2.out
            unfold Mt.rowS at hss
            rw [hsc] at hss
            clear hov hown hbx1 hfy hy hyd hrs hL2 hbwV HSS0 hsc
            by_cases hnd : m.need ≤ sc
            · rw [if_pos hnd] at hss
              have hnd2 : sc ≥ m.need := hnd
              have HSS : Hid (L2 ++ [(min x.id y.id, max x.id y.id)] = L ++ Mt.rowN m x ((l.drop (k + 1)).take (j + 1))) := Lib.hid (by rw [hss, ← List.append_assoc, ← HL2.out])
              clear hss hid
              go_wp2
              clear hV
              go_region_held3 (fun w' => Below V.heap.size V w' ∧ w'.cell? ⟨w.heap.size, 0, none⟩ = some (.slice ka m.keys.length kc) ∧ w'.cell? ⟨w.heap.size, 1, none⟩ = some (.int .i64 m.need) ∧ w'.cell? ⟨A, 0, none⟩ = some (.int .i64 x.id) ∧ w'.cell? ⟨A, 1, none⟩ = some (.int .i64 x.ver) ∧ w'.cell? ⟨A, 2, none⟩ = some (.int .i64 x.kind) ∧ w'.cell? ⟨A, 3, none⟩ = some (.string x.lang) ∧ w'.cell? ⟨A, 4, none⟩ = some (.slice fa x.fields.length fc) ∧ w'.cell? ⟨wr.heap.size, 0, none⟩ = some (.int .i64 y.id) ∧ w'.cell? ⟨wr.heap.size, 1, none⟩ = some (.int .i64 y.ver) ∧ w'.cell? ⟨wr.heap.size, 2, none⟩ = some (.int .i64 y.kind) ∧ w'.cell? ⟨wr.heap.size, 3, none⟩ = some (.string y.lang) ∧ w'.cell? ⟨wr.heap.size, 4, none⟩ = some (.slice ga y.fields.length gc))
                (first | exact ⟨(Below.refl _ _).drew, n0, n1, p0, p1, p2, p3, p4, q0, q1, q2, q3, q4⟩ | (go_split_ands; exact ⟨Tx.step (by assumption) hbx, cell_later hbx (by assumption), cell_later hbx (by assumption), cell_later hbx (by assumption), cell_later hbx (by assumption), cell_later hbx (by assumption), cell_later hbx (by assumption), cell_later hbx (by assumption), cell_later hbx (by assumption), cell_later hbx (by assumption), cell_later hbx (by assumption), cell_later hbx (by assumption), cell_later hbx (by assumption)⟩))
                (first
                  | (go_split_ands; go_at_call 19; ((with_reducible refine (HSC.out _ (by assumption)).mono ?_); rintro e wx ⟨rfl, hbx⟩)))
              go_split_ands
              have hb8 : Below V.heap.size V wx := by assumption
              have hb9 := Tx.step hbV hb8
              have s9 := hb9.size
              have HO8 := Lib.hid (own_below HOV.out hb8)
              have HBX8 := Lib.hid (HBX.out.below hb8)
              have s8 := hb8.size
              go_wp2_with (at_builtin; go_must ((refine wpList_append_sl rfl _ _ 50 rfl W.heap.size 59 i0 _ 2 16 Tryz.underlying50 hi0 hz0 hz1 hz2 rfl (by decide) _ L2.length _ rfl (HO8.out.alloc _) (some ⟨_, 0, none⟩) 1 1 (Mt.enc2 (min x.id y.id, max x.id y.id)) rfl rfl (fun h9 => by cases h9) (fun ad had => by cases had; exact Br.cells_new_at _ _ (by first | rfl | simp) _ _) (by simp [Value.oneCell', Mt.enc2]) (by unfold maxLen; omega) (by omega) (by simp; omega) ?_); intro v' w8 hown8 hg8 hnil8))
              go_roundw
              case rel => exact ⟨j + 1, L2 ++ [(min x.id y.id, max x.id y.id)], hjl, by go_num, HSS, by simp; omega, Lib.hid (by rw [List.length_append, List.flatMap_append]; exact hown8), (hb9.alloc s9 _).grown hg8 (by simp; omega) (fun i hi => (HO8.out.lt i hi).1), Lib.hid (((HBX8.out.below (Tx.newb _ _)).grown hg8 hneA)), by have := hg8.size; simp at this; omega, fun e => by
                rcases hnil8 with h9 | h9
                · rw [h9] at e; exact hneA e
                · rw [h9] at e; injection e with e; simp at e; omega⟩
              case measure => simp [intOf]; omega
            · rw [if_neg hnd, List.append_nil] at hss
              have hnd2 : ¬ sc ≥ m.need := hnd
              have HSS : Hid (L2 = L ++ Mt.rowN m x ((l.drop (k + 1)).take (j + 1))) := Lib.hid (by rw [hss]; exact HL2.out)
              clear hss hid
              go_wp2
              clear hV
              go_region_held3 (fun w' => Below V.heap.size V w' ∧ w'.cell? ⟨w.heap.size, 0, none⟩ = some (.slice ka m.keys.length kc) ∧ w'.cell? ⟨w.heap.size, 1, none⟩ = some (.int .i64 m.need) ∧ w'.cell? ⟨A, 0, none⟩ = some (.int .i64 x.id) ∧ w'.cell? ⟨A, 1, none⟩ = some (.int .i64 x.ver) ∧ w'.cell? ⟨A, 2, none⟩ = some (.int .i64 x.kind) ∧ w'.cell? ⟨A, 3, none⟩ = some (.string x.lang) ∧ w'.cell? ⟨A, 4, none⟩ = some (.slice fa x.fields.length fc) ∧ w'.cell? ⟨wr.heap.size, 0, none⟩ = some (.int .i64 y.id) ∧ w'.cell? ⟨wr.heap.size, 1, none⟩ = some (.int .i64 y.ver) ∧ w'.cell? ⟨wr.heap.size, 2, none⟩ = some (.int .i64 y.kind) ∧ w'.cell? ⟨wr.heap.size, 3, none⟩ = some (.string y.lang) ∧ w'.cell? ⟨wr.heap.size, 4, none⟩ = some (.slice ga y.fields.length gc))
                (first | exact ⟨(Below.refl _ _).drew, n0, n1, p0, p1, p2, p3, p4, q0, q1, q2, q3, q4⟩ | (go_split_ands; exact ⟨Tx.step (by assumption) hbx, cell_later hbx (by assumption), cell_later hbx (by assumption), cell_later hbx (by assumption), cell_later hbx (by assumption), cell_later hbx (by assumption), cell_later hbx (by assumption), cell_later hbx (by assumption), cell_later hbx (by assumption), cell_later hbx (by assumption), cell_later hbx (by assumption), cell_later hbx (by assumption), cell_later hbx (by assumption)⟩))
                (first
                  | (go_split_ands; go_at_call 19; ((with_reducible refine (HSC.out _ (by assumption)).mono ?_); rintro e wx ⟨rfl, hbx⟩)))
              go_split_ands
              have hb8 : Below V.heap.size V wx := by assumption
              have hb9 := Tx.step hbV hb8
              have s9 := hb9.size
              have HO8 := Lib.hid (own_below HOV.out hb8)
              have HBX8 := Lib.hid (HBX.out.below hb8)
              have s8 := hb8.size
              go_wp2
              go_roundw
              case rel => exact ⟨j + 1, L2, hjl, by go_num, HSS, by omega, HO8, hb9, HBX8, by omega, hneA⟩
              case measure => simp [intOf]; omega
          · obtain rfl : j = l.length - (k + 1) := by omega
            have HNL : Hid (L2 = Mt.rowsP m l (k + 1)) := Lib.hid (by rw [HST.out, hL2.out, List.take_of_length_le (by rw [List.length_drop]; exact Nat.le_refl _)])
            clear hL2
            go_wp2
            go_roundw
            case rel => exact ⟨k + 1, L2, hlt, by go_num, HNL, by omega, hown, hb2⟩
            case measure => simp [intOf]; omega
    · obtain rfl : k = l.length := by omega
      have hnd : L.Nodup := by rw [hL.out]; exact Mt.rowsP_nodup m HN.out _
      have hSP := SortP_c hown.out (by omega) hnd
      have hlen := Mt.puts_len_nodup Mt.ordP hnd
      have hpp : Cp.puts Mt.ltP L = Mt.pairs m l := by rw [hL.out]; exact Mt.pairs_rows m HN.out
      rw [hpp] at hSP hlen
      have HSP := Lib.hid hSP
      have HO := Lib.hid hown.out
      have HLEN := Lib.hid hlen
      clear hSP hlen hpp hnd hL hown
      go_wp2_with (go_at_call 48; ((with_reducible refine HSP.out.mono ?_); rintro e w6 ⟨rfl, hown6, hg6⟩; have hb6 := hb.grown hg6 hbs (fun i hi => (HO.out.lt i hi).1)))
      go_ret
      refine ⟨_, rfl, ?_, Tx.step hB hb6⟩
      rw [HLEN.out]
      exact ⟨hown6.1, by
        rcases hown6.2 with h1 | ⟨g, cap, cur, h1, h2, h3⟩
        · exact .inl h1
        · exact .inr ⟨g, cap, cur, h1, by have := HWS.out; omega, h3⟩⟩
end Go.Proofs.YtogpghpgnpoioaaGreatDoor

/- A thing put into a list of things of any width, by three appends in one statement: the laws of the steps. -/
namespace Go.Proofs.YtogpghpgnpoioaaGreatDoor
open Go.RowKit
set_option maxRecDepth 100000

namespace Br
section
variable {α : Type} {enc : α → List Value} {size : Nat}
/-- A part of a list in memory: its first things, and those behind. -/
theorem FA.cellsT (hs : ∀ x, (enc x).length = size) (h0 : 0 < size) {w w' : World} {b o c : Nat} {xs : List α} (h : FA enc size w (some ⟨b, o, Option.none⟩) c xs) (hb : Below w.heap.size w w') (k : Nat) : ∀ j u, ((xs.take k).flatMap enc)[j]? = some u → w'.cell? ((⟨b, o, Option.none⟩ : Addr).add j) = some u := by
  intro j u hj
  refine (h.below hb).cells hs h0 _ rfl j u ?_
  have e : xs.flatMap enc = (xs.take k).flatMap enc ++ (xs.drop k).flatMap enc := by rw [← List.flatMap_append, List.take_append_drop]
  rw [e, List.getElem?_append_left (List.getElem?_eq_some_iff.1 hj).1]
  exact hj
theorem FA.cellsD (hs : ∀ x, (enc x).length = size) (h0 : 0 < size) {w w' : World} {b o c : Nat} {xs : List α} (h : FA enc size w (some ⟨b, o, Option.none⟩) c xs) (hb : Below w.heap.size w w') (k : Nat) (hk : k ≤ xs.length) (p : Nat) (hp : p = o + k * size) : ∀ j u, ((xs.drop k).flatMap enc)[j]? = some u → w'.cell? ((⟨b, p, Option.none⟩ : Addr).add j) = some u := by
  intro j u hj
  have e : xs.flatMap enc = (xs.take k).flatMap enc ++ (xs.drop k).flatMap enc := by rw [← List.flatMap_append, List.take_append_drop]
  have hl : ((xs.take k).flatMap enc).length = k * size := by rw [flat_len enc size hs, List.length_take, Nat.min_eq_left hk]
  have h9 := (h.below hb).cells hs h0 _ rfl (k * size + j) u (by rw [e, List.getElem?_append_right (by omega), hl, Nat.add_sub_cancel_left]; exact hj)
  rw [Cs.add_at] at h9 ⊢
  rw [hp, Nat.add_assoc]
  exact h9
end
end Br

namespace Sq
/-- A slice that the call owns, or an empty one. -/
def OwnZ (w : World) (B e size : Nat) (v : Value) (n : Nat) (xs : List Value) : Prop :=
  (n = 0 ∧ xs = [] ∧ ∃ X, v = .slice (some ⟨X, 0, none⟩) 0 0) ∨ (w.ownsRow B e size v n xs ∧ v ≠ .slice none 0 0)
theorem OwnZ.lit (w : World) (B e size X : Nat) : OwnZ w B e size (.slice (some ⟨X, 0, none⟩) 0 0) 0 [] := .inl ⟨rfl, rfl, X, rfl⟩
theorem OwnZ.alloc {w : World} {B e size : Nat} {v : Value} {n : Nat} {xs : List Value} (h : OwnZ w B e size v n xs) (o : Obj) : OwnZ (w.alloc o) B e size v n xs := by
  rcases h with h | ⟨h1, h2⟩
  · exact .inl h
  · exact .inr ⟨h1.alloc o, h2⟩
theorem OwnZ.drew {w : World} {B e size : Nat} {v : Value} {n : Nat} {xs : List Value} (h : OwnZ w B e size v n xs) : OwnZ w.drew B e size v n xs := h
theorem OwnZ.below {w w' : World} {B e size : Nat} {v : Value} {n : Nat} {xs : List Value} (h : OwnZ w B e size v n xs) (hb : Below w.heap.size w w') : OwnZ w' B e size v n xs := by
  rcases h with h | ⟨h1, h2⟩
  · exact .inl h
  · exact .inr ⟨own_below h1 hb, h2⟩
theorem OwnZ.fa {α : Type} {enc : α → List Value} {size : Nat} (hs : ∀ x, (enc x).length = size) {w : World} {B e n : Nat} {v : Value} {xs : List α} (h : OwnZ w B e size v n (xs.flatMap enc)) (hn : n = xs.length) : ∃ b o c, v = .slice (some ⟨b, o, none⟩) xs.length c ∧ Br.FA enc size w (some ⟨b, o, none⟩) c xs := by
  rcases h with ⟨h1, h2, X, rfl⟩ | ⟨h1, h2⟩
  · have hx : xs = [] := List.eq_nil_of_length_eq_zero (by omega)
    subst hx
    exact ⟨X, 0, 0, rfl, Nat.le_refl _, Nat.zero_le _, X, 0, fun h9 => absurd rfl h9, fun j i x u hx => by simp at hx⟩
  · obtain ⟨a, c, e1, e2, _⟩ := Br.FA.of_own hs h1 hn
    subst e1
    rcases h1.2 with ⟨h9, _⟩ | ⟨g, cap, cur, h9, _⟩
    · exact absurd h9 h2
    · injection h9 with h9 h10 h11
      subst h9
      exact ⟨g, 0, c, rfl, e2⟩
section
variable {P : Program} (w : World)
theorem run_append_lit (base : Nat) (t ty e : TypeId) (i : TypeInfo) (z : Value) (size bytes : Nat) (ht : P.underlying t = some (.slice e)) (hi : P.info? e = some i) (hz : i.zero = some z)
    (hsize : i.size = size) (hby : i.bytes = bytes) (hzs : z.cells.size = size) (hsz : 0 < size) (X : Nat)
    (a : Addr) (m c : Nat) (news : List Value) (hl : news.length = m * size) (hnews : ∀ j u, news[j]? = some u → w.cell? (a.add j) = some u)
    (h63 : m ≤ maxLen) (hbytes : m * bytes ≤ 140737488355328) (hbase : base ≤ w.heap.size) :
    ∃ v' w', (Builtin.append_ #[t, t] ty #[.slice (some ⟨X, 0, none⟩) 0 0, .slice (some a) m c]).run P w = .ok v' w' ∧ OwnZ w' base e size v' m news ∧ w.grownBy w' none := by
  subst hsize
  subst hby
  by_cases hm : m = 0
  · subst hm
    have hn : news = [] := List.eq_nil_of_length_eq_zero (by rw [hl]; omega)
    subst hn
    have hr := run_append_room_cells (P := P) w t ty e i ht hi X 0 0 0 a 0 c [] hl hnews (fun u hu => by cases hu) (Nat.le_refl _) (fun j hj => by cases hj) (fun j hj => by cases hj)
    refine ⟨_, _, hr, .inl ⟨rfl, rfl, X, rfl⟩, ?_⟩
    exact ⟨rfl, rfl, rfl, Nat.le_refl _, fun _ _ _ => rfl⟩
  · have hsmall : m ≤ 9223372036854775807 := by simp only [maxLen] at h63; omega
    have hr := run_append_grow (P := P) w t ty e i z ht hi hz ⟨X, 0, none⟩ 0 0 [] (by simp) (fun j u h => by simp at h) a m c news hl hnews (by omega) (by omega) (growslice_fits (by omega) (by rw [Nat.zero_add]; exact hbytes))
    have hge := grownCap_ge w (0 + m) 0 e
    have hcm : grownCap w (0 + m) 0 e ≤ maxLen := grownCap_le_maxLen w (0 + m) 0 e (by rw [Nat.zero_add]; exact h63)
    generalize grownCap w (0 + m) 0 e = C at hr hge hcm
    rw [Nat.zero_add] at hr hge
    refine ⟨_, _, hr, .inr ⟨⟨hl, .inr ⟨w.heap.size, _, _, rfl, hbase, heap_alloc_new w.drew _, by omega, hcm, ?_, ?_⟩⟩, by simp⟩, ⟨rfl, rfl, rfl, by simp, fun k hk _ => heap_alloc_old w.drew _ hk⟩⟩
    · simp only [Array.size_append, List.size_toArray, size_zeroCells, hzs, hl, List.length_nil, Nat.zero_add, ← Nat.add_mul]
      congr 1
      omega
    · simp only [Array.toList_append, List.append_assoc]
      rw [← hl]
      exact List.take_left
/-- A slice appended, at a step of a region, to an empty slice or to one that the call owns. -/
theorem step_append_z {ops : Array Oper} {o : Oper} {a : Act} {K : Act → World → Prop} {Q : Exit → Act → World → Prop} {E : Prop} (hgd : o.guard = none) (s x : Operand) (t : TypeId)
    (ho : o.op = .call { callee := .builtin .append, args := #[s, x], argTypes := #[t, t] })
    (base : Nat) (e : TypeId) (i : TypeInfo) (z : Value) (size bytes : Nat) (ht : P.underlying t = some (.slice e)) (hi : P.info? e = some i) (hz : i.zero = some z)
    (hsize : i.size = size) (hby : i.bytes = bytes) (hzs : z.cells.size = size) (hsz : 0 < size)
    (v : Value) (n : Nat) (xs : List Value) (hs : a.eval s = v) (hown : OwnZ w base e size v n xs)
    (ad : Addr) (m c : Nat) (news : List Value) (hx : a.eval x = .slice (some ad) m c) (hl : news.length = m * size) (hnews : ∀ j u, news[j]? = some u → w.cell? (ad.add j) = some u) (h1 : ∀ u ∈ news, u.oneCell' = true)
    (h63 : n + m ≤ maxLen) (hbytes : (n + m) * bytes ≤ 140737488355328) (hbase : base ≤ w.heap.size)
    (h : ∀ v' w', OwnZ w' base e size v' (n + m) (xs ++ news) → w.grownBy w' v.ownBlock → Below base w w' → K (a.put o.dst v') w') :
    if Region.wanted o (yielded ops a.tmps) = true then Oper.wp P o a w K Q else E := by
  have hw : Region.wanted o (yielded ops a.tmps) = true := by simp [Region.wanted, hgd]
  rw [if_pos hw]
  rcases hown with ⟨rfl, rfl, X, rfl⟩ | ⟨hown, hne⟩
  · obtain ⟨v', w', hr, h2, h3⟩ := run_append_lit (P := P) w base t o.type e i z size bytes ht hi hz hsize hby hzs hsz X ad m c news hl hnews (by omega) (by simpa using hbytes) hbase
    unfold Oper.wp execOp
    simp only [ho, resolve, invoke, builtin, Sem.run_bind, Sem.run_pure, Result.andThen_ok, List.map_toArray, List.map_cons, List.map_nil, hs, hx, hr]
    exact h v' w' (by rw [Nat.zero_add, List.nil_append]; exact h2) ⟨h3.os, h3.tape, h3.output, h3.size, fun k hk _ => h3.block k hk (by simp)⟩ ((Below.refl base w).grown h3 hbase (fun j hj => by cases hj))
  · obtain ⟨v', w', hr, h2, h3, h4, _⟩ := run_append_own_at (P := P) w base t o.type e i z size bytes ht hi hz hsize hby hzs hsz v n xs hown ad m c news hl hnews h1 h63 hbytes hbase
    unfold Oper.wp execOp
    simp only [ho, resolve, invoke, builtin, Sem.run_bind, Sem.run_pure, Result.andThen_ok, List.map_toArray, List.map_cons, List.map_nil, hs, hx, hr]
    exact h v' w' (.inr ⟨h2, fun e => hne (h4.1 e).1⟩) h3 ((Below.refl base w).grown h3 hbase (fun j hj => (hown.lt j hj).1))
end
theorem el1 {w w1 : World} {lit cs : Array Value} {t t' : TypeId} (hg : ((w.alloc (.cells lit t)).alloc (.cells cs t')).drew.grownBy w1 (some w.heap.size)) : ∀ j u, cs.toList[j]? = some u → w1.cell? ((⟨w.heap.size + 1, 0, none⟩ : Addr).add j) = some u := by
  intro j u hj
  have h := Br.cells_new_at (w.alloc (.cells lit t)) (w.heap.size + 1) (by simp) cs t' j u hj
  refine hg.cell h ?_
  rw [Cs.add_at]
  simp
theorem el2 {w w1 : World} {lit cs : Array Value} {t t' : TypeId} (hg : ((w.alloc (.cells cs t')).alloc (.cells lit t)).drew.grownBy w1 (some (w.heap.size + 1))) : ∀ j u, cs.toList[j]? = some u → w1.cell? ((⟨w.heap.size, 0, none⟩ : Addr).add j) = some u := by
  intro j u hj
  have h := Br.cells_new_at w w.heap.size rfl cs t' j u hj
  have h2 : ((w.alloc (.cells cs t')).alloc (.cells lit t)).cell? ((⟨w.heap.size, 0, none⟩ : Addr).add j) = some u := cell_later (Tx.newb _ _) h
  refine hg.cell h2 ?_
  rw [Cs.add_at]
  simp
end Sq
end Go.Proofs.YtogpghpgnpoioaaGreatDoor
