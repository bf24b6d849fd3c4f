/- The reference's small tests on fields: what the calls return. -/
import Derived.Test.YtcjalpegffldaaaGreatDoorJu
import Derived.Test.YtcjalpegffldaaaGreatDoorJa
import Derived.Sort.Walk0
import Derived.Test.YtcjalpegffldaaaGreatDoorJt
import Derived.Test.YtcjalpegffldaaaGreatDoorJb
import Derived.Deep.DeepCutAuto
import Derived.Laws.OwnMore
import Derived.Deep.AppendLies
import Derived.Maps.AppendAt
namespace Go.Proofs.YtcjalpegffldaaaGreatDoor
open Go.RowKit
set_option maxRecDepth 100000

set_option maxHeartbeats 400000 in
theorem r07_digit_c (x : UInt8) (w : World) :
    Calls Tryz.prog 87 #[.int .u8 x.toNat] w fun e w' => e = .returned (.bool (Rc.digB x)) ∧ w = w' := by
  by_cases h1 : 48 ≤ x.toNat
  · by_cases h2 : x.toNat ≤ 57
    · have HQ := Lib.hid (show Rc.digB x = true by unfold Rc.digB; simp; omega)
      have g1 : (48 : Int) ≤ (x.toNat : Int) := by omega
      have g2 : (x.toNat : Int) ≤ 57 := by omega
      go_enter Tryz.func87, Tryz.ntmps87
      go_wp2
      go_ret
      exact ⟨Tx.retb (by first | exact HQ.out.symm | (rw [HQ.out]; simp; omega)), rfl⟩
    · have HQ := Lib.hid (show Rc.digB x = false by unfold Rc.digB; simp; omega)
      have g1 : (48 : Int) ≤ (x.toNat : Int) := by omega
      have g2 : (57 : Int) < (x.toNat : Int) := by omega
      go_enter Tryz.func87, Tryz.ntmps87
      go_wp2
      go_ret
      exact ⟨Tx.retb (by first | exact HQ.out.symm | (rw [HQ.out]; simp; omega)), rfl⟩
  · have HQ := Lib.hid (show Rc.digB x = false by unfold Rc.digB; simp; omega)
    have g1 : (x.toNat : Int) < 48 := by omega
    go_enter Tryz.func87, Tryz.ntmps87
    go_wp2
    go_ret
    exact ⟨Tx.retb (by first | exact HQ.out.symm | (rw [HQ.out]; simp; omega)), rfl⟩

set_option maxHeartbeats 400000 in
theorem r07_Code_c (x : UInt8) (w : World) :
    Calls Tryz.prog 88 #[.int .u8 x.toNat] w fun e w' => e = .returned (.bool (Rc.codeB x)) ∧ w = w' := by
  cases hd : Rc.digB x with
  | true =>
    have HQ := Lib.hid (show Rc.codeB x = true by unfold Rc.codeB; rw [hd]; rfl)
    have HD := Lib.hid hd; clear hd
    go_enter Tryz.func88, Tryz.ntmps88
    go_wp2_with (go_at_call 87; refine (r07_digit_c x _).mono ?_; rintro e w' ⟨rfl, rfl⟩; rw [HD.out])
    go_ret
    exact ⟨Tx.retb (by first | exact HQ.out.symm | (rw [HQ.out]; simp; omega)), rfl⟩
  | false =>
    by_cases h1 : 97 ≤ x.toNat
    · by_cases h2 : x.toNat ≤ 122
      · have HQ := Lib.hid (show Rc.codeB x = true by unfold Rc.codeB Rc.lowB; rw [hd]; simp; omega)
        have g1 : (97 : Int) ≤ (x.toNat : Int) := by omega
        have g2 : (x.toNat : Int) ≤ 122 := by omega
        have HD := Lib.hid hd; clear hd
        go_enter Tryz.func88, Tryz.ntmps88
        go_wp2_with (go_at_call 87; refine (r07_digit_c x _).mono ?_; rintro e w' ⟨rfl, rfl⟩; rw [HD.out])
        go_ret
        exact ⟨Tx.retb (by first | exact HQ.out.symm | (rw [HQ.out]; simp; omega)), rfl⟩
      · have HQ := Lib.hid (show Rc.codeB x = false by unfold Rc.codeB Rc.lowB; rw [hd]; simp; omega)
        have g1 : (97 : Int) ≤ (x.toNat : Int) := by omega
        have g2 : (122 : Int) < (x.toNat : Int) := by omega
        have HD := Lib.hid hd; clear hd
        go_enter Tryz.func88, Tryz.ntmps88
        go_wp2_with (go_at_call 87; refine (r07_digit_c x _).mono ?_; rintro e w' ⟨rfl, rfl⟩; rw [HD.out])
        go_ret
        exact ⟨Tx.retb (by first | exact HQ.out.symm | (rw [HQ.out]; simp; omega)), rfl⟩
    · have HQ := Lib.hid (show Rc.codeB x = false by unfold Rc.codeB Rc.lowB; rw [hd]; simp; omega)
      have g1 : (x.toNat : Int) < 97 := by omega
      have HD := Lib.hid hd; clear hd
      go_enter Tryz.func88, Tryz.ntmps88
      go_wp2_with (go_at_call 87; refine (r07_digit_c x _).mono ?_; rintro e w' ⟨rfl, rfl⟩; rw [HD.out])
      go_ret
      exact ⟨Tx.retb (by first | exact HQ.out.symm | (rw [HQ.out]; simp; omega)), rfl⟩

namespace Rc
/-- A text of three bytes. -/
theorem three {s : ByteArray} (h : s.size = 3) : ∃ x y z : UInt8, s = ⟨#[x, y, z]⟩ := by
  obtain ⟨⟨l⟩⟩ := s
  match l, h with
  | [x, y, z], _ => exact ⟨x, y, z, rfl⟩
theorem two {s : ByteArray} (h : s.size = 2) : ∃ x y : UInt8, s = ⟨#[x, y]⟩ := by
  obtain ⟨⟨l⟩⟩ := s
  match l, h with
  | [x, y], _ => exact ⟨x, y, rfl⟩
end Rc

set_option maxHeartbeats 800000 in
theorem r07_Tag_c (s : ByteArray) (w : World) :
    Calls Tryz.prog 86 #[.string s] w fun e w' => e = .returned (.bool (Rc.tagOk s.data.toList)) ∧ w = w' := by
  by_cases h3 : s.size = 3
  · obtain ⟨x, y, z, rfl⟩ := Rc.three h3
    clear h3
    have hq : Rc.tagOk [x, y, z] = (Rc.digB x && Rc.digB y && Rc.digB z && !decide ([x, y, z] < ([48, 49, 48] : List UInt8))) := rfl
    have e0 : ∀ h, (⟨#[x, y, z]⟩ : ByteArray)[0]'h = x := fun _ => rfl
    have e1 : ∀ h, (⟨#[x, y, z]⟩ : ByteArray)[1]'h = y := fun _ => rfl
    have e2 : ∀ h, (⟨#[x, y, z]⟩ : ByteArray)[2]'h = z := fun _ => rfl
    have es : (⟨#[x, y, z]⟩ : ByteArray).size = 3 := rfl
    cases hx : Rc.digB x with
    | false =>
      rw [hx] at hq
      have HQ := Lib.hid hq; clear hq
      have HX := Lib.hid hx; clear hx
      go_enter Tryz.func86, Tryz.ntmps86
      go_wp2_with (go_at_call 87; refine (r07_digit_c x _).mono ?_; rintro e w' ⟨rfl, rfl⟩; rw [HX.out])
      go_ret
      exact ⟨Tx.retb (by rw [HQ.out]; rfl), rfl⟩
    | true =>
      cases hy : Rc.digB y with
      | false =>
        rw [hx, hy] at hq
        have HQ := Lib.hid hq; clear hq
        have HX := Lib.hid hx; clear hx
        have HY := Lib.hid hy; clear hy
        go_enter Tryz.func86, Tryz.ntmps86
        go_wp2_with (first | (go_at_call 87; (with_reducible refine (r07_digit_c x _).mono ?_); rintro e1 w1 ⟨rfl, rfl⟩; rw [HX.out]) | (go_at_call 87; (with_reducible refine (r07_digit_c y _).mono ?_); rintro e2 w2 ⟨rfl, rfl⟩; rw [HY.out]))
        go_ret
        exact ⟨Tx.retb (by rw [HQ.out]; rfl), rfl⟩
      | true =>
        cases hz : Rc.digB z with
        | false =>
          rw [hx, hy, hz] at hq
          have HQ := Lib.hid hq; clear hq
          have HX := Lib.hid hx; clear hx
          have HY := Lib.hid hy; clear hy
          have HZ := Lib.hid hz; clear hz
          go_enter Tryz.func86, Tryz.ntmps86
          go_wp2_with (first | (go_at_call 87; (with_reducible refine (r07_digit_c x _).mono ?_); rintro e1 w1 ⟨rfl, rfl⟩; rw [HX.out]) | (go_at_call 87; (with_reducible refine (r07_digit_c y _).mono ?_); rintro e2 w2 ⟨rfl, rfl⟩; rw [HY.out]) | (go_at_call 87; (with_reducible refine (r07_digit_c z _).mono ?_); rintro e3 w3 ⟨rfl, rfl⟩; rw [HZ.out]))
          go_ret
          exact ⟨Tx.retb (by rw [HQ.out]; rfl), rfl⟩
        | true =>
          rw [hx, hy, hz] at hq
          have HQ := Lib.hid hq; clear hq
          have HX := Lib.hid hx; clear hx
          have HY := Lib.hid hy; clear hy
          have HZ := Lib.hid hz; clear hz
          go_enter Tryz.func86, Tryz.ntmps86
          go_wp2_with (first | (go_at_call 87; (with_reducible refine (r07_digit_c x _).mono ?_); rintro e1 w1 ⟨rfl, rfl⟩; rw [HX.out]) | (go_at_call 87; (with_reducible refine (r07_digit_c y _).mono ?_); rintro e2 w2 ⟨rfl, rfl⟩; rw [HY.out]) | (go_at_call 87; (with_reducible refine (r07_digit_c z _).mono ?_); rintro e3 w3 ⟨rfl, rfl⟩; rw [HZ.out]))
          go_ret
          exact ⟨Tx.retb (by rw [HQ.out]; simp [Go.Proofs.bytesLess_eq]), rfl⟩
  · have HQ := Lib.hid (show Rc.tagOk s.data.toList = false by unfold Rc.tagOk; rw [← Lib.size_eq]; simp [h3])
    have hs : ((s.size : Int) == 3) = false := by simp; omega
    clear h3
    go_enter Tryz.func86, Tryz.ntmps86
    go_wp2
    go_ret
    exact ⟨Tx.retb (by first | exact HQ.out.symm | (rw [HQ.out]; simp; omega)), rfl⟩
end Go.Proofs.YtcjalpegffldaaaGreatDoor

/- Lists of strings in memory, and what strings.Join returns of one. -/
namespace Go.Proofs.YtcjalpegffldaaaGreatDoor
open Go.RowKit

theorem info_str : (Tryz.prog.info? 9).map (fun i => (i.zero, i.size, i.bytes)) = some (some (.string ⟨#[]⟩), 1, 16) := by kernel_rfl
theorem Tx.newb (w : World) (o : Obj) : Below w.heap.size w (w.alloc o) := (Below.refl _ _).alloc (Nat.le_refl _) _
theorem Tx.cell_one_at (w : World) (g : Nat) (hg : g = w.heap.size) (x : Value) (t : TypeId) : ∀ j u, [x][j]? = some u → (w.alloc (.cells #[x] t)).cell? ((⟨g, 0, none⟩ : Addr).add j) = some u := by
  subst hg
  exact cell_one_new w x t

/-- The value reads as these strings. -/
def SL (w : World) (v : Value) (xs : List ByteArray) : Prop :=
  (xs = [] ∧ ∃ a c, v = .slice a 0 c) ∨
  ∃ b o c, v = .slice (some ⟨b, o, none⟩) xs.length c ∧ xs.length ≤ c ∧ c ≤ maxLen ∧ b < w.heap.size ∧ ∀ (j : Nat) x, xs[j]? = some x → w.cell? ⟨b, o + j, none⟩ = some (.string x)
theorem SL.below {w w' : World} {v : Value} {xs : List ByteArray} (h : SL w v xs) (hb : Below w.heap.size w w') : SL w' v xs := by
  rcases h with h | ⟨b, o, c, h1, h2, h5, h3, h4⟩
  · exact .inl h
  · exact .inr ⟨b, o, c, h1, h2, h5, Nat.lt_of_lt_of_le h3 hb.size, fun j x hx => cell_later hb (h4 j x hx)⟩
theorem SL.of_own {w : World} {B e n : Nat} {v : Value} {xs : List ByteArray} {ys : List Value} (h : w.ownsRow B e 1 v n ys) (hy : ys = xs.map Value.string) : SL w v xs := by
  subst hy
  have hn : n = xs.length := by have := h.1; simp at this; omega
  subst hn
  rcases h.2 with ⟨rfl, h0⟩ | ⟨g, cap, cur, rfl, hb, hg, h1, h2, _⟩
  · exact .inl ⟨List.eq_nil_of_length_eq_zero h0, _, _, rfl⟩
  · exact .inr ⟨g, 0, cap, rfl, h1, h2, (Array.getElem?_eq_some_iff.1 hg).1, fun j x hx => by
      have hj : j < xs.length := (List.getElem?_eq_some_iff.1 hx).1
      rw [Nat.zero_add, h.cellAt j (by omega), List.getElem?_map, hx]
      rfl⟩

end Go.Proofs.YtcjalpegffldaaaGreatDoor

/- Fields in memory; what the program's functions of layer 7 return. -/
namespace Go.Proofs.YtcjalpegffldaaaGreatDoor
open Go.RowKit
set_option maxRecDepth 100000

namespace Rc
/-- The slice (its address, its capacity) holds these subfields. -/
structure SubA (w : World) (a : Option Addr) (c : Nat) (xs : List (UInt8 × ByteArray)) : Prop where
  cap : xs.length ≤ c
  max : c ≤ maxLen
  at_ : ∃ b o, (xs ≠ [] → a = some ⟨b, o, none⟩ ∧ b < w.heap.size) ∧ ∀ (j : Nat) x, xs[j]? = some x → w.cell? ⟨b, o + j * 2, none⟩ = some (.int .u8 x.1.toNat) ∧ w.cell? ⟨b, o + j * 2 + 1, none⟩ = some (.string x.2)
theorem SubA.below {w w' : World} {a : Option Addr} {c : Nat} {xs : List (UInt8 × ByteArray)} (h : SubA w a c xs) (hb : Below w.heap.size w w') : SubA w' a c xs := by
  obtain ⟨b, o, h1, h2⟩ := h.at_
  exact ⟨h.cap, h.max, b, o, fun hn => ⟨(h1 hn).1, Nat.lt_of_lt_of_le (h1 hn).2 hb.size⟩, fun j x hx => ⟨cell_later hb (h2 j x hx).1, cell_later hb (h2 j x hx).2⟩⟩
/-- The slice holds these fields. -/
structure FldA (w : World) (a : Option Addr) (c : Nat) (fs : List Fl) : Prop where
  cap : fs.length ≤ c
  max : c ≤ maxLen
  at_ : ∃ b o, (fs ≠ [] → a = some ⟨b, o, none⟩ ∧ b < w.heap.size) ∧ ∀ (j : Nat) f, fs[j]? = some f → w.cell? ⟨b, o + j * 4, none⟩ = some (.string f.tag) ∧ w.cell? ⟨b, o + j * 4 + 1, none⟩ = some (.string f.ind) ∧
    (∃ sa sc, w.cell? ⟨b, o + j * 4 + 2, none⟩ = some (.slice sa f.subs.length sc) ∧ SubA w sa sc f.subs) ∧ w.cell? ⟨b, o + j * 4 + 3, none⟩ = some (.int .i64 f.auth)
theorem FldA.below {w w' : World} {a : Option Addr} {c : Nat} {fs : List Fl} (h : FldA w a c fs) (hb : Below w.heap.size w w') : FldA w' a c fs := by
  obtain ⟨b, o, h1, h2⟩ := h.at_
  refine ⟨h.cap, h.max, b, o, fun hn => ⟨(h1 hn).1, Nat.lt_of_lt_of_le (h1 hn).2 hb.size⟩, fun j x hx => ?_⟩
  obtain ⟨c0, c1, ⟨sa, sc, c2, hs⟩, c3⟩ := h2 j x hx
  exact ⟨cell_later hb c0, cell_later hb c1, ⟨sa, sc, cell_later hb c2, hs.below hb⟩, cell_later hb c3⟩
theorem SubA.get {w : World} {a : Option Addr} {c : Nat} {xs : List (UInt8 × ByteArray)} (h : SubA w a c xs) {k : Nat} {x : UInt8 × ByteArray} (hk : xs[k]? = some x) :
    ∃ b o, a = some ⟨b, o, none⟩ ∧ b < w.heap.size ∧ w.cell? ⟨b, o + k * 2, none⟩ = some (.int .u8 x.1.toNat) ∧ w.cell? ⟨b, o + k * 2 + 1, none⟩ = some (.string x.2) := by
  obtain ⟨b, o, h1, h2⟩ := h.at_
  have hne : xs ≠ [] := by intro h0; subst h0; simp at hk
  exact ⟨b, o, (h1 hne).1, (h1 hne).2, (h2 k x hk).1, (h2 k x hk).2⟩
theorem FldA.get {w : World} {a : Option Addr} {c : Nat} {xs : List Fl} (h : FldA w a c xs) {k : Nat} {f : Fl} (hk : xs[k]? = some f) :
    ∃ b o sa sc, a = some ⟨b, o, none⟩ ∧ b < w.heap.size ∧ w.cell? ⟨b, o + k * 4, none⟩ = some (.string f.tag) ∧ w.cell? ⟨b, o + k * 4 + 1, none⟩ = some (.string f.ind) ∧
      w.cell? ⟨b, o + k * 4 + 2, none⟩ = some (.slice sa f.subs.length sc) ∧ w.cell? ⟨b, o + k * 4 + 3, none⟩ = some (.int .i64 f.auth) ∧ SubA w sa sc f.subs := by
  obtain ⟨b, o, h1, h2⟩ := h.at_
  have hne : xs ≠ [] := by intro h0; subst h0; simp at hk
  obtain ⟨c0, c1, ⟨sa, sc, c2, hs⟩, c3⟩ := h2 k f hk
  exact ⟨b, o, sa, sc, (h1 hne).1, (h1 hne).2, c0, c1, c2, c3, hs⟩
theorem allV_take {xs : List (UInt8 × ByteArray)} {k : Nat} {x : UInt8 × ByteArray} (codes : By) (h : xs[k]? = some x) : allV (xs.take (k + 1)) codes = allV (xs.take k) codes ++ (if hasCode codes x.1 = true then [x.2] else []) := by
  unfold allV
  rw [List.take_add_one, h]
  simp only [Option.toList, List.filter_append, List.map_append]
  congr 1
  by_cases hc : hasCode codes x.1 = true
  · simp [hc]
  · simp [hc]
theorem indexByte_mem : ∀ (l : By) (c : UInt8), 0 ≤ Lib.indexByte l c ↔ c ∈ l
  | [], c => by simp [Lib.indexByte]
  | b :: l, c => by
    have ih := indexByte_mem l c
    have hg := Lib.indexByte_ge l c
    unfold Lib.indexByte
    by_cases hb : b = c
    · subst hb; simp
    · have hb' : (b == c) = false := by simpa using hb
      rw [hb', List.mem_cons]
      simp only [Bool.false_eq_true, if_false]
      by_cases h1 : Lib.indexByte l c = -1
      · rw [h1] at ih ⊢
        simp only [beq_self_eq_true, if_true]
        constructor
        · intro h; omega
        · rintro (h | h)
          · exact absurd h.symm hb
          · have := ih.2 h; omega
      · have h2 : (Lib.indexByte l c == -1) = false := by simpa using h1
        rw [h2]
        simp only [Bool.false_eq_true, if_false]
        constructor
        · intro _; exact .inr (ih.1 (by omega))
        · rintro (h | h)
          · exact absurd h.symm hb
          · have := ih.2 h; omega
theorem code_in {codes : By} {c : UInt8} (h : codes ≠ []) : 0 ≤ Lib.indexByte codes c ↔ hasCode codes c = true := by
  rw [indexByte_mem]
  unfold hasCode
  have : codes.isEmpty = false := by simpa using h
  simp [this]
theorem code_none {codes : By} (c : UInt8) (h : codes = []) : hasCode codes c = true := by subst h; rfl
theorem take_all {α : Type} (l : List α) : l.take l.length = l := List.take_of_length_le (Nat.le_refl _)
end Rc

end Go.Proofs.YtcjalpegffldaaaGreatDoor

/- Blocks, cells and joined texts: small facts that many walks use. -/
namespace Go.Proofs.YtcjalpegffldaaaGreatDoor
open Go.RowKit

theorem Tx.bcell {B : Nat} {W w1 : World} (hb : Below B W w1) : ∀ b o, b < B → w1.cell? ⟨b, o, none⟩ = W.cell? ⟨b, o, none⟩ := fun b o h => hb.cell (p := ⟨b, o, none⟩) h
/-- What a chain of concatenations gives, one fact a '+'. -/
def Tx.Adds (P : Program) : ByteArray → List ByteArray → Prop
  | _, [] => True
  | a, b :: l => (∀ W, (Op.stringOp .add a b).run P W = .ok (.string (a ++ b)) W) ∧ Tx.Adds P (a ++ b) l
theorem Tx.adds_ok (P : Program) : ∀ (l : List ByteArray) (a : ByteArray), a.size + (l.map (·.size)).sum ≤ 9223372036854775807 → Tx.Adds P a l
  | [], _, _ => trivial
  | b :: l, a, h => by
    rw [List.map_cons, List.sum_cons] at h
    exact ⟨fun W => run_string_add_sum W a b (by omega), Tx.adds_ok P l (a ++ b) (by rw [ByteArray.size_append]; omega)⟩
theorem Tx.size_mk (l : List UInt8) : (⟨l.toArray⟩ : ByteArray).size = l.length := by simp [ByteArray.size]
theorem Tx.step {W wi w1 : World} (h : Below W.heap.size W wi) (hb : Below wi.heap.size wi w1) : Below W.heap.size W w1 := h.trans (hb.mono h.size)
theorem Tx.blk {w : World} {g : Nat} {cs : Array Value} {t : TypeId} (h : w.heap[g]? = some (.cells cs t (0, 0))) : (∀ i, w.cell? ⟨g, i, none⟩ = cs[i]?) ∧ (∀ i, w.frozen? ⟨g, i, none⟩ = false) ∧ g < w.heap.size :=
  ⟨fun i => cell_of_row w g i cs t (0, 0) h, fun i => by simp [World.frozen?, h], (Array.getElem?_eq_some_iff.1 h).1⟩
theorem Tx.later {g : Nat} {w w' : World} (hb : Below w.heap.size w w') (h : g < w.heap.size) : (∀ i, w'.cell? ⟨g, i, none⟩ = w.cell? ⟨g, i, none⟩) ∧ (∀ i, w'.frozen? ⟨g, i, none⟩ = w.frozen? ⟨g, i, none⟩) :=
  ⟨fun i => hb.cell (p := ⟨g, i, none⟩) h, fun i => hb.frozen (p := ⟨g, i, none⟩) h⟩
theorem Tx.blk_later {w w' : World} {g : Nat} {o : Obj} (h : w.heap[g]? = some o) (hb : Below w.heap.size w w') : w'.heap[g]? = some o := (hb.block g (Array.getElem?_eq_some_iff.1 h).1).trans h
theorem Tx.set4 {B g : Nat} {w wr : World} (h : Below B w wr) (hg : B ≤ g) (v0 v1 v2 v3 : Value) :
    Below B w ((((wr.setCell ⟨g, 0, none⟩ v0).setCell ⟨g, 1, none⟩ v1).setCell ⟨g, 2, none⟩ v2).setCell ⟨g, 3, none⟩ v3) :=
  (((h.setCell hg _).setCell hg _).setCell hg _).setCell hg _
theorem Tx.newd (w : World) (o : Obj) : Below w.heap.size w (w.alloc o).drew := ((Below.refl _ _).alloc (Nat.le_refl _) _).drew
theorem Tx.newcell (w : World) (cs : Array Value) (t : TypeId) (i : Nat) : (w.alloc (.cells cs t)).drew.cell? ⟨w.heap.size, i, none⟩ = cs[i]? := cell_of_row _ _ i cs t (0, 0) (heap_alloc_new w _)
end Go.Proofs.YtcjalpegffldaaaGreatDoor

/- The reference's Right of a field, its small tests of size: what the calls return. -/
namespace Go.Proofs.YtcjalpegffldaaaGreatDoor
open Go.RowKit
set_option maxRecDepth 100000

set_option maxHeartbeats 1600000 in
theorem r07_Right_c (f : Rc.Fl) (a : Option Addr) (c : Nat) (w : World) (h : Rc.SubA w a c f.subs) (hz : ∀ x ∈ f.subs, x.2.size ≤ 1000000) :
    Calls Tryz.prog 66 #[.agg #[.string f.tag, .string f.ind, .slice a f.subs.length c, .int .i64 f.auth]] w fun e w' => e = .returned (.int .i64 (Rc.fieldE f)) ∧ Below w.heap.size w w' := by
  obtain ⟨W, hW⟩ : ∃ W, w.alloc (.cells #[.string f.tag, .string f.ind, .slice a f.subs.length c, .int .i64 f.auth] 55) = W := ⟨_, rfl⟩
  have hB : Below w.heap.size w W := by rw [← hW]; exact Tx.newb _ _
  have c0 : W.cell? ⟨w.heap.size, 0, none⟩ = some (.string f.tag) := by rw [← hW]; simp
  have c1 : W.cell? ⟨w.heap.size, 1, none⟩ = some (.string f.ind) := by rw [← hW]; simp
  have c2 : W.cell? ⟨w.heap.size, 2, none⟩ = some (.slice a f.subs.length c) := by rw [← hW]; simp
  have c3 : W.cell? ⟨w.heap.size, 3, none⟩ = some (.int .i64 f.auth) := by rw [← hW]; simp
  have hS := h.below hB
  have hcap := h.cap
  have hmx : maxLen = 9223372036854775807 := rfl
  have hmax := h.max
  have HZ := Lib.hid hz; clear hz
  cases ht : Rc.tagOk f.tag.data.toList with
  | false =>
    have HE := Lib.hid (Rc.fieldE_6 ht)
    have HT := Lib.hid ht; clear ht
    go_enter Tryz.func66, Tryz.ntmps66
    go_wp2_with (go_at_call 86; refine (r07_Tag_c f.tag _).mono ?_; rintro e w1 ⟨rfl, rfl⟩; rw [HT.out])
    go_ret
    exact ⟨Tx.ret1 HE.out.symm, hB⟩
  | true =>
    have HT := Lib.hid ht; clear ht
    go_enter Tryz.func66, Tryz.ntmps66
    go_upto_region 3 with (go_at_call 86; refine (r07_Tag_c f.tag _).mono ?_; rintro e w1 ⟨rfl, rfl⟩; rw [HT.out])
    go_cut [2, 38] (fun r t wx => ∃ b, r = .int .i64 0 ∧ t = .bool b ∧ Hid (Rc.indOk f.ind.data.toList = !b) ∧ W = wx)
    case first =>
      by_cases h2 : f.ind.size = 2
      · obtain ⟨x, hx⟩ : ∃ x, f.ind.data.toList.getD 0 0 = x := ⟨_, rfl⟩
        obtain ⟨y, hy⟩ : ∃ y, f.ind.data.toList.getD 1 0 = y := ⟨_, rfl⟩
        have e0 : ∀ h, f.ind[0]'h = x := fun h => by rw [← hx, Tx.getD_at f.ind 0 h]
        have e1 : ∀ h, f.ind[1]'h = y := fun h => by rw [← hy, Tx.getD_at f.ind 1 h]
        have hq : Rc.indOk f.ind.data.toList = (Rc.indB x && Rc.indB y) := by unfold Rc.indOk; rw [hx, hy, ← Lib.size_eq, h2]; rfl
        clear hx hy
        by_cases x2 : x.toNat = 32
        · have gx : ((x.toNat : Int) != 32) = false := by simp; omega
          by_cases y2 : y.toNat = 32
          · have gy : ((y.toNat : Int) != 32) = false := by simp; omega
            have hv : Rc.indOk f.ind.data.toList = true := by rw [hq]; unfold Rc.indB; simp [*]
            have HQ := Lib.hid hv; clear hv hq
            clear x2; clear y2
            go_wp2
            go_meet
            exact ⟨_, rfl, rfl, Lib.hid HQ.out, rfl⟩
          · have gy : ((y.toNat : Int) != 32) = true := by simp; omega
            cases dy : Rc.digB y with
            | true =>
              have hv : Rc.indOk f.ind.data.toList = true := by rw [hq]; unfold Rc.indB; simp [*]
              have HQ := Lib.hid hv; clear hv hq
              clear x2; have HY := Lib.hid dy; clear dy y2
              go_wp2_with (first | (go_at_call 87; (with_reducible refine (r07_digit_c y _).mono ?_); rintro e2 w2 ⟨rfl, rfl⟩; rw [HY.out]))
              go_meet
              exact ⟨_, rfl, rfl, Lib.hid HQ.out, rfl⟩
            | false =>
              have hv : Rc.indOk f.ind.data.toList = false := by rw [hq]; unfold Rc.indB; simp [*]
              have HQ := Lib.hid hv; clear hv hq
              clear x2; have HY := Lib.hid dy; clear dy y2
              go_wp2_with (first | (go_at_call 87; (with_reducible refine (r07_digit_c y _).mono ?_); rintro e2 w2 ⟨rfl, rfl⟩; rw [HY.out]))
              go_meet
              exact ⟨_, rfl, rfl, Lib.hid HQ.out, rfl⟩
        · have gx : ((x.toNat : Int) != 32) = true := by simp; omega
          cases dx : Rc.digB x with
          | true =>
            by_cases y2 : y.toNat = 32
            · have gy : ((y.toNat : Int) != 32) = false := by simp; omega
              have hv : Rc.indOk f.ind.data.toList = true := by rw [hq]; unfold Rc.indB; simp [*]
              have HQ := Lib.hid hv; clear hv hq
              have HX := Lib.hid dx; clear dx x2; clear y2
              go_wp2_with (first | (go_at_call 87; (with_reducible refine (r07_digit_c x _).mono ?_); rintro e1 w1 ⟨rfl, rfl⟩; rw [HX.out]))
              go_meet
              exact ⟨_, rfl, rfl, Lib.hid HQ.out, rfl⟩
            · have gy : ((y.toNat : Int) != 32) = true := by simp; omega
              cases dy : Rc.digB y with
              | true =>
                have hv : Rc.indOk f.ind.data.toList = true := by rw [hq]; unfold Rc.indB; simp [*]
                have HQ := Lib.hid hv; clear hv hq
                have HX := Lib.hid dx; clear dx x2; have HY := Lib.hid dy; clear dy y2
                go_wp2_with (first | (go_at_call 87; (with_reducible refine (r07_digit_c x _).mono ?_); rintro e1 w1 ⟨rfl, rfl⟩; rw [HX.out]) | (go_at_call 87; (with_reducible refine (r07_digit_c y _).mono ?_); rintro e2 w2 ⟨rfl, rfl⟩; rw [HY.out]))
                go_meet
                exact ⟨_, rfl, rfl, Lib.hid HQ.out, rfl⟩
              | false =>
                have hv : Rc.indOk f.ind.data.toList = false := by rw [hq]; unfold Rc.indB; simp [*]
                have HQ := Lib.hid hv; clear hv hq
                have HX := Lib.hid dx; clear dx x2; have HY := Lib.hid dy; clear dy y2
                go_wp2_with (first | (go_at_call 87; (with_reducible refine (r07_digit_c x _).mono ?_); rintro e1 w1 ⟨rfl, rfl⟩; rw [HX.out]) | (go_at_call 87; (with_reducible refine (r07_digit_c y _).mono ?_); rintro e2 w2 ⟨rfl, rfl⟩; rw [HY.out]))
                go_meet
                exact ⟨_, rfl, rfl, Lib.hid HQ.out, rfl⟩
          | false =>
            have hv : Rc.indOk f.ind.data.toList = false := by rw [hq]; unfold Rc.indB; simp [*]
            have HQ := Lib.hid hv; clear hv hq
            have HX := Lib.hid dx; clear dx x2
            go_wp2_with (first | (go_at_call 87; (with_reducible refine (r07_digit_c x _).mono ?_); rintro e1 w1 ⟨rfl, rfl⟩; rw [HX.out]))
            go_meet
            exact ⟨_, rfl, rfl, Lib.hid HQ.out, rfl⟩
      · have HQ := Lib.hid (show Rc.indOk f.ind.data.toList = false by unfold Rc.indOk; rw [← Lib.size_eq]; simp [h2])
        have gs : ((f.ind.size : Int) != 2) = true := by simp; omega
        clear h2
        go_wp2
        go_meet
        exact ⟨_, rfl, rfl, Lib.hid HQ.out, rfl⟩
    case rest =>
      obtain ⟨b, rfl, rfl, hbi, rfl⟩ := hcut
      have hi := hbi.out
      clear hbi
      cases b with
      | true =>
        rw [Bool.not_true] at hi
        have HE := Lib.hid (Rc.fieldE_3 HT.out hi)
        clear hi
        go_wp2
        go_ret
        exact ⟨Tx.ret1 HE.out.symm, hB⟩
      | false =>
        rw [Bool.not_false] at hi
        by_cases h0 : f.subs.length = 0
        · have HE := Lib.hid (Rc.fieldE_8 HT.out hi h0)
          clear hi
          go_wp2
          go_ret
          exact ⟨Tx.ret1 HE.out.symm, hB⟩
        · by_cases h16 : 16 < f.subs.length
          · have HE := Lib.hid (Rc.fieldE_4 HT.out hi h16)
            clear hi
            go_wp2
            go_ret
            exact ⟨Tx.ret1 HE.out.symm, hB⟩
          · have hmid := Rc.fieldE_mid HT.out hi h0 (by omega)
            have h0' : 0 < f.subs.length := by omega
            have h16' : f.subs.length ≤ 16 := by omega
            have HM := Lib.hid hmid
            have q0 : ((f.subs.length : Int) == 0) = false := beq_eq_false_iff_ne.2 (by omega)
            clear hi hmid h0 h16
            obtain ⟨E, hE⟩ : ∃ E, Rc.firstE (f.subs.map Rc.subE) = E := ⟨_, rfl⟩
            have HE := Lib.hid hE; clear hE
            go_wp2
            go_loopw [3, 4] (fun i _ wr => ∃ (k : Nat), k ≤ f.subs.length ∧ i = .int .i64 k ∧ Hid (Rc.firstE ((f.subs.map Rc.subE).drop k) = E) ∧ Below W.heap.size W wr) (fun i _ _ => f.subs.length - (intOf i).toNat)
            case atStart => exact ⟨0, Nat.zero_le _, rfl, Lib.hid (by rw [List.drop_zero, HE.out]), Below.refl _ _⟩
            case round =>
              obtain ⟨k, hk, rfl, hI, hb⟩ := hrel
              have hbw := Tx.step hB hb
              replace c2 := cell_later hb c2
              replace c3 := cell_later hb c3
              clear c0 c1
              by_cases hlt : k < f.subs.length
              · obtain ⟨x, hx⟩ : ∃ x, f.subs[k]? = some x := ⟨_, List.getElem?_eq_getElem hlt⟩
                have hzx := HZ.out x (List.mem_of_getElem? hx)
                obtain ⟨b, o, rfl, hbl, d0, d1⟩ := hS.get hx
                replace d0 := cell_later hb d0
                replace d1 := cell_later hb d1
                obtain ⟨s0, s1⟩ := Rc.sub_step hx hI.out
                have hbn := Tx.newb wr (.cells #[.int .u8 x.1.toNat, .string x.2] 57)
                have hb2 := Tx.step hb hbn
                have hbw2 := Tx.step hbw hbn
                clear hx hI
                cases hc : Rc.codeB x.1 with
                | false =>
                  have e1 := Rc.subE_1 hc
                  have HF := Lib.hid (show Rc.fieldE f = 1 by rw [HM.out, HE.out, s1 (by rw [e1]; decide), e1]; rfl)
                  have HC := Lib.hid hc; clear hc e1 s0 s1
                  go_wp2_with (go_at_call 88; refine (r07_Code_c x.1 _).mono ?_; rintro e w1 ⟨rfl, rfl⟩; rw [HC.out])
                  go_ret
                  exact ⟨Tx.ret1 HF.out.symm, hbw2⟩
                | true =>
                  by_cases he : x.2.data.toList = []
                  · have e1 := Rc.subE_8 hc he
                    have HF := Lib.hid (show Rc.fieldE f = 8 by rw [HM.out, HE.out, s1 (by rw [e1]; decide), e1]; rfl)
                    have hem : x.2.toList.isEmpty = true := by rw [Lib.toList_data, he]; rfl
                    have HC := Lib.hid hc; clear hc e1 s0 s1 he
                    go_wp2_with (go_at_call 88; refine (r07_Code_c x.1 _).mono ?_; rintro e w1 ⟨rfl, rfl⟩; rw [HC.out])
                    go_ret
                    exact ⟨Tx.ret1 HF.out.symm, hbw2⟩
                  · have hem : x.2.toList.isEmpty = false := by rw [Lib.toList_data]; simpa using he
                    cases hv : Tx.valid x.2.data.toList with
                    | false =>
                      have e1 := Rc.subE_3 hc he hv
                      have HF := Lib.hid (show Rc.fieldE f = 3 by rw [HM.out, HE.out, s1 (by rw [e1]; decide), e1]; rfl)
                      have HC := Lib.hid hc
                      have HV := Lib.hid hv
                      clear hc e1 s0 s1 he hv
                      go_wp2_with (first
                        | (go_at_call 88; refine (r07_Code_c x.1 _).mono ?_; rintro e w1 ⟨rfl, rfl⟩; rw [HC.out])
                        | (go_at_call 89; refine (r01_Valid_c x.2 _ (by omega)).mono ?_; rintro e w2 ⟨rfl, hb3⟩; rw [HV.out]))
                      go_ret
                      exact ⟨Tx.ret1 HF.out.symm, Tx.step hbw2 hb3⟩
                    | true =>
                      by_cases hz : 200 < x.2.size
                      · have e1 := Rc.subE_4 hc he hv hz
                        have HF := Lib.hid (show Rc.fieldE f = 4 by rw [HM.out, HE.out, s1 (by rw [e1]; decide), e1]; rfl)
                        have HC := Lib.hid hc
                        have HV := Lib.hid hv
                        clear hc e1 s0 s1 he hv
                        go_wp2_with (first
                          | (go_at_call 88; refine (r07_Code_c x.1 _).mono ?_; rintro e w1 ⟨rfl, rfl⟩; rw [HC.out])
                          | (go_at_call 89; refine (r01_Valid_c x.2 _ (by omega)).mono ?_; rintro e w2 ⟨rfl, hb3⟩; rw [HV.out]; have q1 := cell_later hb3 (show (wr.alloc (.cells #[.int .u8 x.1.toNat, .string x.2] 57)).cell? ⟨wr.heap.size, 1, none⟩ = some (.string x.2) by simp)))
                        go_ret
                        exact ⟨Tx.ret1 HF.out.symm, Tx.step hbw2 hb3⟩
                      · have e1 := Rc.subE_0 hc he hv (by omega)
                        have HN := Lib.hid (s0 e1)
                        have HC := Lib.hid hc
                        have HV := Lib.hid hv
                        have hz2 : x.2.size ≤ 200 := by omega
                        clear hc e1 s0 s1 he hv hz
                        go_wp2_with (first
                          | (go_at_call 88; refine (r07_Code_c x.1 _).mono ?_; rintro e w1 ⟨rfl, rfl⟩; rw [HC.out])
                          | (go_at_call 89; refine (r01_Valid_c x.2 _ (by omega)).mono ?_; rintro e w2 ⟨rfl, hb3⟩; rw [HV.out]; have q1 := cell_later hb3 (show (wr.alloc (.cells #[.int .u8 x.1.toNat, .string x.2] 57)).cell? ⟨wr.heap.size, 1, none⟩ = some (.string x.2) by simp)))
                        go_roundw
                        case rel => exact ⟨k + 1, by omega, by go_num, HN, Tx.step hb2 hb3⟩
                        case measure => simp [intOf]; omega
              · obtain rfl : k = f.subs.length := by omega
                have hE0 : E = 0 := by
                  rw [← hI.out, List.drop_eq_nil_of_le (by rw [List.length_map]; exact Nat.le_refl _)]; rfl
                have hf2 : Rc.fieldE f = if f.auth < 0 ∨ 9999 < f.auth then 2 else 0 := by rw [HM.out, HE.out, hE0]; rfl
                clear hE0 hI
                by_cases g1 : f.auth < 0
                · have HF := Lib.hid (show Rc.fieldE f = 2 by rw [hf2, if_pos (.inl g1)])
                  clear hf2
                  go_wp2
                  go_ret
                  exact ⟨Tx.ret1 HF.out.symm, hbw⟩
                · by_cases g2 : 9999 < f.auth
                  · have HF := Lib.hid (show Rc.fieldE f = 2 by rw [hf2, if_pos (.inr g2)])
                    clear hf2
                    have g1' : 0 ≤ f.auth := by omega
                    go_wp2
                    go_ret
                    exact ⟨Tx.ret1 HF.out.symm, hbw⟩
                  · have HF := Lib.hid (show Rc.fieldE f = 0 by rw [hf2, if_neg (by omega)])
                    clear hf2
                    have g1' : 0 ≤ f.auth := by omega
                    have g2' : f.auth ≤ 9999 := by omega
                    go_wp2
                    go_ret
                    exact ⟨Tx.ret1 HF.out.symm, hbw⟩
end Go.Proofs.YtcjalpegffldaaaGreatDoor

/- The reference's tests of moderate size: what the calls return. -/
namespace Go.Proofs.YtcjalpegffldaaaGreatDoor
open Go.RowKit
set_option maxRecDepth 100000

namespace Rc
theorem all_take {α : Type} {p : α → Prop} {l : List α} {k : Nat} {x : α} (h : l[k]? = some x) (hp : p x) (ha : ∀ y ∈ l.take k, p y) : ∀ y ∈ l.take (k + 1), p y := by
  intro y hy
  rw [List.take_add_one, h, List.mem_append] at hy
  rcases hy with hy | hy
  · exact ha y hy
  · simp at hy; rw [hy]; exact hp
theorem smallF_true {f : Fl} (h1 : f.subs.length ≤ 20) (h2 : ∀ x ∈ f.subs, x.2.size ≤ 300) : smallF f = true := decide_eq_true ⟨h1, h2⟩
theorem smallF_len {f : Fl} (h1 : ¬ f.subs.length ≤ 20) : smallF f = false := decide_eq_false fun h => h1 h.1
theorem smallF_at {f : Fl} {k : Nat} {x : UInt8 × ByteArray} (h : f.subs[k]? = some x) (h2 : ¬ x.2.size ≤ 300) : smallF f = false := decide_eq_false fun h9 => h2 (h9.2 x (List.mem_of_getElem? h))
theorem smallR_true {fs : List Fl} (h1 : fs.length ≤ 70) (h2 : ∀ f ∈ fs, smallF f = true) : smallR fs = true := decide_eq_true ⟨h1, h2⟩
theorem smallR_len {fs : List Fl} (h1 : ¬ fs.length ≤ 70) : smallR fs = false := decide_eq_false fun h => h1 h.1
theorem smallR_at {fs : List Fl} {k : Nat} {f : Fl} (h : fs[k]? = some f) (h2 : smallF f = false) : smallR fs = false := decide_eq_false fun h9 => by have := h9.2 f (List.mem_of_getElem? h); rw [h2] at this; cases this
theorem smallF_of {f : Fl} (h : smallF f = true) : f.subs.length ≤ 20 ∧ ∀ x ∈ f.subs, x.2.size ≤ 300 := of_decide_eq_true h
theorem smallR_of {fs : List Fl} (h : smallR fs = true) : fs.length ≤ 70 ∧ ∀ f ∈ fs, smallF f = true := of_decide_eq_true h
end Rc

end Go.Proofs.YtcjalpegffldaaaGreatDoor

/- The reference's Right of a record: what the call returns. -/
namespace Go.Proofs.YtcjalpegffldaaaGreatDoor
open Go.RowKit
set_option maxRecDepth 100000

namespace Rc
theorem recE_2 {r : Rd} (h : r.id < 0 ∨ 9999 < r.id) : recE r = 2 := by unfold recE; rw [if_pos h]
theorem recE_20 {r : Rd} (h : ¬ (r.id < 0 ∨ 9999 < r.id)) (h2 : r.ver < 1 ∨ 3 < r.ver) : recE r = 20 := by unfold recE; rw [if_neg h, if_pos h2]
theorem recE_1 {r : Rd} (h : ¬ (r.id < 0 ∨ 9999 < r.id)) (h2 : ¬ (r.ver < 1 ∨ 3 < r.ver)) (h3 : r.kind < 1 ∨ 4 < r.kind) : recE r = 1 := by unfold recE; rw [if_neg h, if_neg h2, if_pos h3]
theorem recE_3 {r : Rd} (h : ¬ (r.id < 0 ∨ 9999 < r.id)) (h2 : ¬ (r.ver < 1 ∨ 3 < r.ver)) (h3 : ¬ (r.kind < 1 ∨ 4 < r.kind)) (h4 : r.lang.data.toList.length ≠ 3) : recE r = 3 := by unfold recE; rw [if_neg h, if_neg h2, if_neg h3, if_pos h4]
theorem recE_3b {r : Rd} (h : ¬ (r.id < 0 ∨ 9999 < r.id)) (h2 : ¬ (r.ver < 1 ∨ 3 < r.ver)) (h3 : ¬ (r.kind < 1 ∨ 4 < r.kind)) (h4 : r.lang.data.toList.length = 3) (h5 : langOk r.lang.data.toList = false) : recE r = 3 := by
  unfold recE; rw [if_neg h, if_neg h2, if_neg h3, if_neg (by omega), if_pos h5]
theorem recE_4 {r : Rd} (h : ¬ (r.id < 0 ∨ 9999 < r.id)) (h2 : ¬ (r.ver < 1 ∨ 3 < r.ver)) (h3 : ¬ (r.kind < 1 ∨ 4 < r.kind)) (h4 : r.lang.data.toList.length = 3) (h5 : langOk r.lang.data.toList = true) (h6 : 64 < r.fields.length) : recE r = 4 := by
  unfold recE; rw [if_neg h, if_neg h2, if_neg h3, if_neg (by omega), if_neg (by simp [h5]), if_pos h6]
theorem recE_f {r : Rd} (h : ¬ (r.id < 0 ∨ 9999 < r.id)) (h2 : ¬ (r.ver < 1 ∨ 3 < r.ver)) (h3 : ¬ (r.kind < 1 ∨ 4 < r.kind)) (h4 : r.lang.data.toList.length = 3) (h5 : langOk r.lang.data.toList = true) (h6 : ¬ 64 < r.fields.length) : recE r = firstE (r.fields.map fieldE) := by
  unfold recE; rw [if_neg h, if_neg h2, if_neg h3, if_neg (by omega), if_neg (by simp [h5]), if_neg h6]
theorem fld_step {l : List Fl} {k : Nat} {x : Fl} {n : Int} (h : l[k]? = some x) (hd : firstE ((l.map fieldE).drop k) = n) : (fieldE x = 0 → firstE ((l.map fieldE).drop (k + 1)) = n) ∧ (fieldE x ≠ 0 → n = fieldE x) := by
  have := firstE_step (l := l.map fieldE) (k := k) (e := fieldE x) (by rw [List.getElem?_map, h]; rfl)
  rw [hd] at this
  exact ⟨fun h0 => by rw [if_pos h0] at this; exact this.symm, fun h0 => by rw [if_neg h0] at this; exact this⟩
theorem lang_at {s : ByteArray} {k : Nat} (h : k < 3) (hl : lowB (s.data.toList.getD k 0) = false) : langOk s.data.toList = false := by
  unfold langOk
  match k, h with
  | 0, _ => rw [hl]; rfl
  | 1, _ => rw [hl]; simp
  | 2, _ => rw [hl]; simp
theorem lang_all {s : ByteArray} (h : ∀ k, k < 3 → lowB (s.data.toList.getD k 0) = true) : langOk s.data.toList = true := by
  unfold langOk
  rw [h 0 (by omega), h 1 (by omega), h 2 (by omega)]
  rfl
end Rc

set_option maxHeartbeats 3200000 in
theorem r08_Right_c (fs : List Rc.Fl) (a : Option Addr) (c : Nat) (id ver kind : Int) (lang : ByteArray) (w : World) (h : Rc.FldA w a c fs) (hz : ∀ f ∈ fs, ∀ x ∈ f.subs, x.2.size ≤ 1000000) :
    Calls Tryz.prog 34 #[.agg #[.int .i64 id, .int .i64 ver, .int .i64 kind, .string lang, .slice a fs.length c]] w fun e w' => e = .returned (.int .i64 (Rc.recE ⟨id, ver, kind, lang, fs⟩)) ∧ Below w.heap.size w w' := by
  obtain ⟨W, hW⟩ : ∃ W, w.alloc (.cells #[.int .i64 id, .int .i64 ver, .int .i64 kind, .string lang, .slice a fs.length c] 24) = W := ⟨_, rfl⟩
  have hB : Below w.heap.size w W := by rw [← hW]; exact Tx.newb _ _
  have c0 : W.cell? ⟨w.heap.size, 0, none⟩ = some (.int .i64 id) := by rw [← hW]; simp
  have c1 : W.cell? ⟨w.heap.size, 1, none⟩ = some (.int .i64 ver) := by rw [← hW]; simp
  have c2 : W.cell? ⟨w.heap.size, 2, none⟩ = some (.int .i64 kind) := by rw [← hW]; simp
  have c3 : W.cell? ⟨w.heap.size, 3, none⟩ = some (.string lang) := by rw [← hW]; simp
  have c4 : W.cell? ⟨w.heap.size, 4, none⟩ = some (.slice a fs.length c) := by rw [← hW]; simp
  have hS := h.below hB
  have hcap := h.cap
  have hmx : maxLen = 9223372036854775807 := rfl
  have hmax := h.max
  have HZ := Lib.hid hz; clear hz
  by_cases i1 : id < 0
  · have HE := Lib.hid (Rc.recE_2 (r := ⟨id, ver, kind, lang, fs⟩) (.inl i1))
    go_enter Tryz.func34, Tryz.ntmps34
    go_wp2
    go_ret
    exact ⟨Tx.ret1 HE.out.symm, hB⟩
  · have i1' : 0 ≤ id := by omega
    clear i1
    by_cases i2 : 9999 < id
    · have HE := Lib.hid (Rc.recE_2 (r := ⟨id, ver, kind, lang, fs⟩) (.inr i2))
      go_enter Tryz.func34, Tryz.ntmps34
      go_wp2
      go_ret
      exact ⟨Tx.ret1 HE.out.symm, hB⟩
    · have i2' : id ≤ 9999 := by omega
      clear i2
      have J1 := Lib.hid (show ¬ (id < 0 ∨ 9999 < id) by omega)
      by_cases v1 : ver < 1
      · have HE := Lib.hid (Rc.recE_20 (r := ⟨id, ver, kind, lang, fs⟩) J1.out (.inl v1))
        go_enter Tryz.func34, Tryz.ntmps34
        go_wp2
        go_ret
        exact ⟨Tx.ret1 HE.out.symm, hB⟩
      · have v1' : 1 ≤ ver := by omega
        clear v1
        by_cases v2 : 3 < ver
        · have HE := Lib.hid (Rc.recE_20 (r := ⟨id, ver, kind, lang, fs⟩) J1.out (.inr v2))
          go_enter Tryz.func34, Tryz.ntmps34
          go_wp2
          go_ret
          exact ⟨Tx.ret1 HE.out.symm, hB⟩
        · have v2' : ver ≤ 3 := by omega
          clear v2
          have J2 := Lib.hid (show ¬ (ver < 1 ∨ 3 < ver) by omega)
          by_cases k1 : kind < 1
          · have HE := Lib.hid (Rc.recE_1 (r := ⟨id, ver, kind, lang, fs⟩) J1.out J2.out (.inl k1))
            go_enter Tryz.func34, Tryz.ntmps34
            go_wp2
            go_ret
            exact ⟨Tx.ret1 HE.out.symm, hB⟩
          · have k1' : 1 ≤ kind := by omega
            clear k1
            by_cases k2 : 4 < kind
            · have HE := Lib.hid (Rc.recE_1 (r := ⟨id, ver, kind, lang, fs⟩) J1.out J2.out (.inr k2))
              go_enter Tryz.func34, Tryz.ntmps34
              go_wp2
              go_ret
              exact ⟨Tx.ret1 HE.out.symm, hB⟩
            · have k2' : kind ≤ 4 := by omega
              clear k2
              have J3 := Lib.hid (show ¬ (kind < 1 ∨ 4 < kind) by omega)
              by_cases l3 : lang.size = 3
              · have J4 := Lib.hid (show lang.data.toList.length = 3 by rw [← Lib.size_eq]; exact l3)
                have q1 : decide ((9999 : Int) < id) = false := decide_eq_false (by omega)
                have q2 : decide ((3 : Int) < ver) = false := decide_eq_false (by omega)
                have q3 : decide ((4 : Int) < kind) = false := decide_eq_false (by omega)
                go_enter Tryz.func34, Tryz.ntmps34
                go_wp2
                clear hW
                go_loop [3] (fun i => ∃ (k : Nat), k ≤ 3 ∧ i = .int .i64 k ∧ Hid (∀ j, j < k → Rc.lowB (lang.data.toList.getD j 0) = true)) (fun i => 3 - (intOf i).toNat)
                case atStart => exact ⟨0, by omega, rfl, Lib.hid (fun j hj => absurd hj (by omega))⟩
                case round =>
                  obtain ⟨k, hk, rfl, hE⟩ := hrel
                  by_cases hlt : k < 3
                  · obtain ⟨x, hx⟩ : ∃ x, lang.data.toList.getD k 0 = x := ⟨_, rfl⟩
                    have e0 : ∀ h, lang[k]'h = x := fun h => by rw [← hx, Tx.getD_at lang k h]
                    by_cases g1 : 97 ≤ x.toNat
                    · by_cases g2 : x.toNat ≤ 122
                      · have hE2 : Hid (∀ j, j < k + 1 → Rc.lowB (lang.data.toList.getD j 0) = true) := Lib.hid (fun j hj => by
                          rcases Nat.lt_or_ge j k with h1 | h1
                          · exact hE.out j h1
                          · obtain rfl : j = k := by omega
                            rw [hx]; exact decide_eq_true ⟨g1, g2⟩)
                        have g1' : (97 : Int) ≤ (x.toNat : Int) := by omega
                        have g2' : (x.toNat : Int) ≤ 122 := by omega
                        clear hx
                        go_wp2
                        go_round
                        case rel => exact ⟨k + 1, by omega, by go_num, hE2⟩
                        case measure => simp [intOf]; omega
                      · have HE := Lib.hid (Rc.recE_3b (r := ⟨id, ver, kind, lang, fs⟩) J1.out J2.out J3.out J4.out (Rc.lang_at hlt (by rw [hx]; exact decide_eq_false (by omega))))
                        have g1' : (97 : Int) ≤ (x.toNat : Int) := by omega
                        have g2' : (122 : Int) < (x.toNat : Int) := by omega
                        clear hx
                        go_wp2
                        go_ret
                        exact ⟨Tx.ret1 HE.out.symm, hB⟩
                    · have HE := Lib.hid (Rc.recE_3b (r := ⟨id, ver, kind, lang, fs⟩) J1.out J2.out J3.out J4.out (Rc.lang_at hlt (by rw [hx]; exact decide_eq_false (by omega))))
                      have g1' : (x.toNat : Int) < 97 := by omega
                      clear hx
                      go_wp2
                      go_ret
                      exact ⟨Tx.ret1 HE.out.symm, hB⟩
                  · obtain rfl : k = 3 := by omega
                    have J5 := Lib.hid (Rc.lang_all hE.out)
                    by_cases f6 : 64 < fs.length
                    · have HE := Lib.hid (Rc.recE_4 (r := ⟨id, ver, kind, lang, fs⟩) J1.out J2.out J3.out J4.out J5.out f6)
                      go_wp2
                      go_ret
                      exact ⟨Tx.ret1 HE.out.symm, hB⟩
                    · have HF := Lib.hid (Rc.recE_f (r := ⟨id, ver, kind, lang, fs⟩) J1.out J2.out J3.out J4.out J5.out f6)
                      have f6' : fs.length ≤ 64 := by omega
                      have q6 : decide ((64 : Int) < (fs.length : Int)) = false := decide_eq_false (by omega)
                      clear f6
                      obtain ⟨E, hEE⟩ : ∃ E, Rc.firstE (fs.map Rc.fieldE) = E := ⟨_, rfl⟩
                      have HE := Lib.hid hEE; clear hEE hE
                      go_wp2
                      go_loopw [4, 5] (fun i _ wr => ∃ (k : Nat), k ≤ fs.length ∧ i = .int .i64 k ∧ Hid (Rc.firstE ((fs.map Rc.fieldE).drop k) = E) ∧ Below W.heap.size W wr) (fun i _ _ => fs.length - (intOf i).toNat)
                      case atStart => exact ⟨0, Nat.zero_le _, rfl, Lib.hid (by rw [List.drop_zero, HE.out]), Below.refl _ _⟩
                      case round =>
                        obtain ⟨k, hk, rfl, hI, hb⟩ := hrel
                        have hbw := Tx.step hB hb
                        replace c4 := cell_later hb c4
                        clear c0 c1 c2 c3
                        by_cases hlt : k < fs.length
                        · obtain ⟨f, hf⟩ : ∃ f, fs[k]? = some f := ⟨_, List.getElem?_eq_getElem hlt⟩
                          have HZF := Lib.hid (HZ.out f (List.mem_of_getElem? hf))
                          obtain ⟨b, o, sa, sc, rfl, hbl, d0, d1, d2, d3, hsub⟩ := hS.get hf
                          replace d0 := cell_later hb d0
                          replace d1 := cell_later hb d1
                          replace d2 := cell_later hb d2
                          replace d3 := cell_later hb d3
                          have hsub2 := hsub.below hb
                          obtain ⟨s0, s1⟩ := Rc.fld_step hf hI.out
                          clear hf hI
                          obtain ⟨n, hn⟩ : ∃ n, Rc.fieldE f = n := ⟨_, rfl⟩
                          rw [hn] at s0 s1
                          have HN := Lib.hid hn; clear hn
                          by_cases n0 : n = 0
                          · have HS := Lib.hid (s0 n0)
                            have nq : (n != 0) = false := by simpa using n0
                            clear s0 s1 n0
                            go_wp2_with (go_at_call 66; refine (r07_Right_c f sa sc _ hsub2 HZF.out).mono ?_; rintro e w1 ⟨rfl, hb1⟩; rw [HN.out])
                            go_roundw
                            case rel => exact ⟨k + 1, by omega, by go_num, HS, Tx.step hb hb1⟩
                            case measure => simp [intOf]; omega
                          · have HS := Lib.hid (show Rc.recE ⟨id, ver, kind, lang, fs⟩ = n by rw [HF.out, HE.out, s1 n0])
                            have nq : (n != 0) = true := by simpa using n0
                            clear s0 s1 n0
                            go_wp2_with (go_at_call 66; refine (r07_Right_c f sa sc _ hsub2 HZF.out).mono ?_; rintro e w1 ⟨rfl, hb1⟩; rw [HN.out])
                            go_ret
                            exact ⟨Tx.ret1 HS.out.symm, Tx.step hbw hb1⟩
                        · obtain rfl : k = fs.length := by omega
                          have HS := Lib.hid (show Rc.recE ⟨id, ver, kind, lang, fs⟩ = 0 by
                            rw [HF.out, HE.out, ← hI.out, List.drop_eq_nil_of_le (by rw [List.length_map]; exact Nat.le_refl _)]; rfl)
                          clear hI
                          go_wp2
                          go_ret
                          exact ⟨Tx.ret1 HS.out.symm, hbw⟩
              · have HE := Lib.hid (Rc.recE_3 (r := ⟨id, ver, kind, lang, fs⟩) J1.out J2.out J3.out (by rw [← Lib.size_eq]; exact l3))
                have ls : ((lang.size : Int) != 3) = true := by simp; omega
                clear l3
                go_enter Tryz.func34, Tryz.ntmps34
                go_wp2
                go_ret
                exact ⟨Tx.ret1 HE.out.symm, hB⟩

end Go.Proofs.YtcjalpegffldaaaGreatDoor

/- Memory: lists of strings and of structs at an address; slices that the call owns; a slice appended; small laws. -/
namespace Go.Proofs.YtcjalpegffldaaaGreatDoor
open Go.RowKit
set_option maxRecDepth 100000

/-- The slice holds these strings. -/
structure SLA (w : World) (a : Option Addr) (c : Nat) (xs : List ByteArray) : Prop where
  cap : xs.length ≤ c
  max : c ≤ maxLen
  at_ : ∃ b o, (xs ≠ [] → a = some ⟨b, o, none⟩ ∧ b < w.heap.size) ∧ ∀ (j : Nat) x, xs[j]? = some x → w.cell? ⟨b, o + j, none⟩ = some (.string x)
theorem SLA.below {w w' : World} {a : Option Addr} {c : Nat} {xs : List ByteArray} (h : SLA w a c xs) (hb : Below w.heap.size w w') : SLA w' a c xs := by
  obtain ⟨b, o, h1, h2⟩ := h.at_
  exact ⟨h.cap, h.max, b, o, fun hn => ⟨(h1 hn).1, Nat.lt_of_lt_of_le (h1 hn).2 hb.size⟩, fun j x hx => cell_later hb (h2 j x hx)⟩
theorem SLA.get {w : World} {a : Option Addr} {c : Nat} {xs : List ByteArray} (h : SLA w a c xs) {k : Nat} {x : ByteArray} (hk : xs[k]? = some x) :
    ∃ b o, a = some ⟨b, o, none⟩ ∧ b < w.heap.size ∧ w.cell? ⟨b, o + k, none⟩ = some (.string x) := by
  obtain ⟨b, o, h1, h2⟩ := h.at_
  have hne : xs ≠ [] := by intro h0; subst h0; simp at hk
  exact ⟨b, o, (h1 hne).1, (h1 hne).2, h2 k x hk⟩
theorem SLA.of_own {w : World} {B e n : Nat} {v : Value} {xs : List ByteArray} {ys : List Value} (h : w.ownsRow B e 1 v n ys) (hy : ys = xs.map Value.string) : ∃ a c, v = .slice a xs.length c ∧ SLA w a c xs := by
  subst hy
  have hn : n = xs.length := by have := h.1; simp at this; omega
  subst hn
  rcases h.2 with ⟨rfl, h0⟩ | ⟨g, cap, cur, rfl, hb, hg, h1, h2, _⟩
  · rw [h0]
    have := List.eq_nil_of_length_eq_zero h0
    subst this
    exact ⟨none, 0, rfl, by simp, by simp, 0, 0, fun h => absurd rfl h, fun j x hx => by simp at hx⟩
  · exact ⟨_, cap, rfl, h1, h2, g, 0, fun _ => ⟨rfl, (Array.getElem?_eq_some_iff.1 hg).1⟩, fun j x hx => by
      have hj : j < xs.length := (List.getElem?_eq_some_iff.1 hx).1
      rw [Nat.zero_add, h.cellAt j (by omega), List.getElem?_map, hx]
      rfl⟩
theorem SLA.sl {w : World} {a : Option Addr} {c : Nat} {xs : List ByteArray} (h : SLA w a c xs) : SL w (.slice a xs.length c) xs := by
  by_cases hne : xs = []
  · subst hne
    exact .inl ⟨rfl, a, c, rfl⟩
  · obtain ⟨b, o, h1, h2⟩ := h.at_
    obtain ⟨rfl, hb⟩ := h1 hne
    exact .inr ⟨b, o, c, rfl, h.cap, h.max, hb, h2⟩
theorem SL.sla {w : World} {v : Value} {xs : List ByteArray} (h : SL w v xs) : ∃ a c, v = .slice a xs.length c ∧ (xs ≠ [] → SLA w a c xs) := by
  rcases h with ⟨rfl, a, c, rfl⟩ | ⟨b, o, c, rfl, h1, h2, h3, h4⟩
  · exact ⟨a, c, rfl, fun h => absurd rfl h⟩
  · exact ⟨_, c, rfl, fun _ => ⟨h1, h2, b, o, fun _ => ⟨rfl, h3⟩, h4⟩⟩

namespace Cs
/-- A list in memory, at an address that is there. -/
structure LA {α : Type} (enc : α → Value) (w : World) (b o c : Nat) (xs : List α) : Prop where
  cap : xs.length ≤ c
  max : c ≤ maxLen
  lt : b < w.heap.size
  at_ : ∀ (j : Nat) x, xs[j]? = some x → w.cell? ⟨b, o + j, none⟩ = some (enc x)
theorem LA.below {α : Type} {enc : α → Value} {w w' : World} {b o c : Nat} {xs : List α} (h : LA enc w b o c xs) (hb : Below w.heap.size w w') : LA enc w' b o c xs :=
  ⟨h.cap, h.max, Nat.lt_of_lt_of_le h.lt hb.size, fun j x hx => cell_later hb (h.at_ j x hx)⟩
theorem LA.of_own {α : Type} {enc : α → Value} {w : World} {B e n g cap : Nat} {xs : List α} (h : w.ownsRow B e 1 (.slice (some ⟨g, 0, none⟩) n cap) n (xs.map enc)) (hm : n = xs.length) : LA enc w g 0 cap xs := by
  subst hm
  refine ⟨?_, ?_, (h.lt g rfl).2, fun j x hx => ?_⟩
  · rcases h.2 with ⟨h0, _⟩ | ⟨g', cap', cur, h', _, _, h1, _⟩
    · simp at h0
    · simp only [Value.slice.injEq] at h'
      omega
  · rcases h.2 with ⟨h0, _⟩ | ⟨g', cap', cur, h', _, _, _, h1, _⟩
    · simp at h0
    · simp only [Value.slice.injEq] at h'
      omega
  · have hj : j < xs.length := (List.getElem?_eq_some_iff.1 hx).1
    rw [Nat.zero_add, h.cellAt j (by omega), List.getElem?_map, hx]
    rfl
theorem add_at (b o j : Nat) : (⟨b, o, none⟩ : Addr).add j = ⟨b, o + j, none⟩ := by unfold Addr.add; split <;> simp_all
theorem LA.cellsT {α : Type} {enc : α → Value} {w w' : World} {b o c : Nat} {xs : List α} (h : LA enc w b o c xs) (hb : Below w.heap.size w w') (k : Nat) : ∀ j u, ((xs.take k).map enc)[j]? = some u → w'.cell? ((⟨b, o, none⟩ : Addr).add j) = some u := by
  intro j u hj
  rw [List.getElem?_map, List.getElem?_take] at hj
  split at hj
  · obtain ⟨x, hx, rfl⟩ := Option.map_eq_some_iff.1 hj
    rw [add_at]
    exact cell_later hb (h.at_ j x hx)
  · cases hj
theorem LA.cellsD {α : Type} {enc : α → Value} {w w' : World} {b o c : Nat} {xs : List α} (h : LA enc w b o c xs) (hb : Below w.heap.size w w') (k : Nat) : ∀ j u, ((xs.drop k).map enc)[j]? = some u → w'.cell? ((⟨b, o + k, none⟩ : Addr).add j) = some u := by
  intro j u hj
  rw [List.getElem?_map, List.getElem?_drop] at hj
  obtain ⟨x, hx, rfl⟩ := Option.map_eq_some_iff.1 hj
  rw [add_at, Nat.add_assoc]
  exact cell_later hb (h.at_ (k + j) x hx)
theorem LA.cells {α : Type} {enc : α → Value} {w : World} {b o c : Nat} {xs : List α} (h : LA enc w b o c xs) : ∀ j u, (xs.map enc)[j]? = some u → w.cell? ((⟨b, o, none⟩ : Addr).add j) = some u := by
  intro j u hj
  rw [List.getElem?_map] at hj
  obtain ⟨x, hx, rfl⟩ := Option.map_eq_some_iff.1 hj
  rw [add_at]
  exact h.at_ j x hx
theorem LA.grown {α : Type} {enc : α → Value} {w w' : World} {row : Option Nat} {b o c : Nat} {xs : List α} (h : LA enc w b o c xs) (hg : w.grownBy w' row) (hne : some b ≠ row) : LA enc w' b o c xs :=
  ⟨h.cap, h.max, Nat.lt_of_lt_of_le h.lt hg.size, fun j x hx => (hg.cell_far ⟨b, o + j, none⟩ h.lt hne).trans (h.at_ j x hx)⟩
end Cs
namespace Br
theorem cells_new_at (w : World) (g : Nat) (hg : g = w.heap.size) (cs : Array Value) (t : TypeId) : ∀ j u, cs.toList[j]? = some u → (w.alloc (.cells cs t)).cell? ((⟨g, 0, none⟩ : Addr).add j) = some u := by
  subst hg
  intro j u h
  rw [Cs.add_at, Nat.zero_add]
  have hj : j < cs.size := by have := (List.getElem?_eq_some_iff.1 h).1; simpa using this
  simp only [World.cell?, heap_alloc_new]
  simpa using h
theorem flat_at {α : Type} (enc : α → List Value) (size : Nat) (hs : ∀ x, (enc x).length = size) : ∀ (xs : List α) (k i : Nat) (x : α), xs[k]? = some x → i < size → (xs.flatMap enc)[k * size + i]? = (enc x)[i]?
  | [], k, i, x, h, _ => by simp at h
  | y :: r, 0, i, x, h, hi => by
    simp at h
    subst h
    rw [Nat.zero_mul, Nat.zero_add, List.flatMap_cons, List.getElem?_append_left (by rw [hs]; exact hi)]
  | y :: r, k + 1, i, x, h, hi => by
    rw [List.flatMap_cons, List.getElem?_append_right (by rw [hs, Nat.succ_mul]; omega), hs, show (k + 1) * size + i - size = k * size + i by rw [Nat.succ_mul]; omega]
    exact flat_at enc size hs r k i x (by simpa using h) hi
theorem flat_len {α : Type} (enc : α → List Value) (size : Nat) (hs : ∀ x, (enc x).length = size) : ∀ xs : List α, (xs.flatMap enc).length = xs.length * size
  | [] => by simp
  | x :: r => by rw [List.flatMap_cons, List.length_append, hs, flat_len enc size hs r, List.length_cons, Nat.succ_mul]; omega
/-- A slice that the call owns: its value, and the cell of an element. -/
theorem own_any {α : Type} {enc : α → List Value} {size : Nat} (hs : ∀ x, (enc x).length = size) {w : World} {B e n : Nat} {v : Value} {xs : List α} (h : w.ownsRow B e size v n (xs.flatMap enc)) (hn : n = xs.length) :
    ∃ a c, v = .slice a xs.length c ∧ xs.length ≤ c ∧ c ≤ maxLen ∧ (xs = [] ∨ ∃ g, a = some ⟨g, 0, none⟩ ∧ B ≤ g ∧ g < w.heap.size ∧ ∀ (k i : Nat) (x : α) (u : Value), xs[k]? = some x → i < size → (enc x)[i]? = some u → w.cell? ⟨g, k * size + i, none⟩ = some u) := by
  subst hn
  have h0 := h
  rcases h.2 with ⟨rfl, h7⟩ | ⟨g, cap, cur, rfl, hb, hg, h1, h2, _⟩
  · have h8 := List.eq_nil_of_length_eq_zero h7
    subst h8
    exact ⟨none, 0, rfl, Nat.le_refl _, by simp, .inl rfl⟩
  · refine ⟨_, cap, rfl, h1, h2, .inr ⟨g, rfl, hb, (Array.getElem?_eq_some_iff.1 hg).1, fun k i x u hk hi hu => ?_⟩⟩
    have hkl : k < xs.length := (List.getElem?_eq_some_iff.1 hk).1
    rw [h0.cellAt (k * size + i) (Nat.lt_of_lt_of_le (Nat.add_lt_add_left hi _) (by rw [← Nat.succ_mul]; exact Nat.mul_le_mul_right _ hkl)), flat_at enc size hs xs k i x hk hi, hu]
end Br

section
variable {P : Program} {w : World}
theorem run_append_none_any (base : Nat) (t ty e : TypeId) (i : TypeInfo) (size : Nat) (ht : P.underlying t = some (.slice e)) (hi : P.info? e = some i)
    (v : Value) (n : Nat) (xs : List Value) (hown : w.ownsRow base e size v n xs) (c : Nat) :
    (Builtin.append_ #[t, t] ty #[v, .slice none 0 c]).run P w = .ok v w := by
  rcases hown.2 with ⟨rfl, rfl⟩ | ⟨g, cap, cur, rfl, _, _, hnc, _⟩
  · simp [Builtin.append_, run_underlying ht, sizeOf, typeInfo, hi, Builtin.lenOf, Builtin.firstCells]
  · simp [Builtin.append_, run_underlying ht, sizeOf, typeInfo, hi, Builtin.lenOf, Builtin.firstCells, hnc, storeCells]
/-- A slice appended to one that the call owns; nil too. -/
theorem wpList_append_sl {ops : Array Oper} {rest : List Oper} {o : Oper} {a : Act} {Q : Exit → Act → World → Prop} (hgd : o.guard = none) (s x : Operand) (t : TypeId)
    (ho : o.op = .call { callee := .builtin .append, args := #[s, x], argTypes := #[t, t] })
    (base : Nat) (e : TypeId) (i : TypeInfo) (z : Value) (size bytes : Nat) (ht : P.underlying t = some (.slice e)) (hi : P.info? e = some i) (hz : i.zero = some z)
    (hsize : i.size = size) (hby : i.bytes = bytes) (hzs : z.cells.size = size) (hsz : 0 < size)
    (v : Value) (n : Nat) (xs : List Value) (hs : a.eval s = v) (hown : w.ownsRow base e size v n xs)
    (ao : Option Addr) (m c : Nat) (news : List Value) (hx : a.eval x = .slice ao m c) (hl : news.length = m * size) (hno : ao = none → m = 0) (hnews : ∀ ad, ao = some ad → ∀ j u, news[j]? = some u → w.cell? (ad.add j) = some u) (h1 : ∀ u ∈ news, u.oneCell' = true)
    (h63 : n + m ≤ maxLen) (hbytes : (n + m) * bytes ≤ 140737488355328) (hbase : base ≤ w.heap.size)
    (h : ∀ v' w', w'.ownsRow base e size v' (n + m) (xs ++ news) → w.grownBy w' v.ownBlock → (v'.ownBlock = v.ownBlock ∨ v'.ownBlock = some w.heap.size) → wpList P ops Q rest (a.put o.dst v') w') : wpList P ops Q (o :: rest) a w := by
  cases ao with
  | none =>
    obtain rfl := hno rfl
    have hn : news = [] := List.eq_nil_of_length_eq_zero (by rw [hl]; omega)
    subst hn
    refine wpList_plain hgd fun K hK => ?_
    have hrun := run_append_none_any (P := P) (w := w) base t o.type e i size ht hi v n xs hown c
    unfold Oper.wp
    simp [execOp, ho, resolve, invoke, builtin, hs, hx, hrun, Result.andThen]
    exact hK _ _ (h v w (by simpa using hown) ⟨rfl, rfl, rfl, Nat.le_refl _, fun _ _ _ => rfl⟩ (.inl rfl))
  | some ad => exact wpList_append_own_at w hgd s x t ho base e i z size bytes ht hi hz hsize hby hzs hsz v n xs hs hown ad m c news hx hl (hnews ad rfl) h1 h63 hbytes hbase (fun v' w' h2 h3 _ h5 => h v' w' h2 h3 h5)
end
theorem SLA.none {w : World} {a : Option Addr} {c : Nat} {xs : List ByteArray} (h : SLA w a c xs) : a = none → xs.length = 0 := by
  intro ha
  obtain ⟨b, o, h1, _⟩ := h.at_
  cases xs with
  | nil => rfl
  | cons x r => have := (h1 (by simp)).1; rw [ha] at this; cases this
theorem SLA.cells {w : World} {a : Option Addr} {c : Nat} {xs : List ByteArray} (h : SLA w a c xs) : ∀ ad, a = some ad → ∀ j u, (xs.map Value.string)[j]? = some u → w.cell? (ad.add j) = some u := by
  intro ad ha j u hj
  rw [List.getElem?_map, Option.map_eq_some_iff] at hj
  obtain ⟨x, hx, rfl⟩ := hj
  obtain ⟨b, o, hb, _, hc⟩ := h.get hx
  rw [hb] at ha
  injection ha with ha
  subst ha
  rw [Cs.add_at]
  exact hc
theorem SLA.ones (xs : List ByteArray) : ∀ u ∈ xs.map Value.string, u.oneCell' = true := fun u hu => by
  obtain ⟨z, _, rfl⟩ := List.mem_map.1 hu
  rfl
theorem Tx.undrew {w w1 : World} (h : Below w.drew.heap.size w.drew w1) : Below w.heap.size w w1 := ((Below.refl _ _).drew).trans h
theorem Rc.cell_lt {w : World} {b o : Nat} {v : Value} (h : w.cell? ⟨b, o, none⟩ = some v) : b < w.heap.size := World.block_lt_of_cell? w ⟨b, o, none⟩ h
end Go.Proofs.YtcjalpegffldaaaGreatDoor

/- Memory: flat lists of structs; lists of subfields, fields and records that the call owns, or that lie at an address. -/
namespace Go.Proofs.YtcjalpegffldaaaGreatDoor
open Go.RowKit
set_option maxRecDepth 100000

namespace Br
/-- The slice holds these structs, cell for cell. -/
structure FA {α : Type} (enc : α → List Value) (size : Nat) (w : World) (a : Option Addr) (c : Nat) (xs : List α) : Prop where
  cap : xs.length ≤ c
  max : c ≤ maxLen
  at_ : ∃ b o, (xs ≠ [] → a = some ⟨b, o, none⟩ ∧ b < w.heap.size) ∧ ∀ (j i : Nat) (x : α) (u : Value), xs[j]? = some x → (enc x)[i]? = some u → w.cell? ⟨b, o + j * size + i, none⟩ = some u
variable {α : Type} {enc : α → List Value} {size : Nat}
theorem FA.below {w w' : World} {a : Option Addr} {c : Nat} {xs : List α} (h : FA enc size w a c xs) (hb : Below w.heap.size w w') : FA enc size w' a c xs := by
  obtain ⟨b, o, h1, h2⟩ := h.at_
  exact ⟨h.cap, h.max, b, o, fun hn => ⟨(h1 hn).1, Nat.lt_of_lt_of_le (h1 hn).2 hb.size⟩, fun j i x u hx hu => cell_later hb (h2 j i x u hx hu)⟩
theorem FA.get {w : World} {a : Option Addr} {c : Nat} {xs : List α} (h : FA enc size w a c xs) {k : Nat} {x : α} (hk : xs[k]? = some x) :
    ∃ b o, a = some ⟨b, o, none⟩ ∧ b < w.heap.size ∧ ∀ i u, (enc x)[i]? = some u → w.cell? ⟨b, o + k * size + i, none⟩ = some u := by
  obtain ⟨b, o, h1, h2⟩ := h.at_
  have hne : xs ≠ [] := by intro h0; subst h0; simp at hk
  exact ⟨b, o, (h1 hne).1, (h1 hne).2, fun i u hu => h2 k i x u hk hu⟩
theorem FA.none {w : World} {a : Option Addr} {c : Nat} {xs : List α} (h : FA enc size w a c xs) : a = none → xs.length = 0 := by
  intro ha
  obtain ⟨b, o, h1, _⟩ := h.at_
  cases xs with
  | nil => rfl
  | cons x r => have := (h1 (by simp)).1; rw [ha] at this; cases this
theorem FA.cells (hs : ∀ x, (enc x).length = size) (h0 : 0 < size) {w : World} {a : Option Addr} {c : Nat} {xs : List α} (h : FA enc size w a c xs) : ∀ ad, a = some ad → ∀ j u, (xs.flatMap enc)[j]? = some u → w.cell? (ad.add j) = some u := by
  intro ad ha j u hj
  have hl : j < xs.length * size := by
    have := (List.getElem?_eq_some_iff.1 hj).1
    rw [flat_len enc size hs] at this
    exact this
  have hk : j / size < xs.length := (Nat.div_lt_iff_lt_mul h0).2 hl
  obtain ⟨x, hx⟩ : ∃ x, xs[j / size]? = some x := ⟨_, List.getElem?_eq_getElem hk⟩
  have hi := Nat.mod_lt j h0
  have e : j / size * size + j % size = j := by rw [Nat.mul_comm]; exact Nat.div_add_mod j size
  have hf := flat_at enc size hs xs (j / size) (j % size) x hx hi
  rw [e, hj] at hf
  obtain ⟨b, o, hb, _, hc⟩ := h.get hx
  rw [hb] at ha
  injection ha with ha
  subst ha
  have := hc (j % size) u hf.symm
  rw [Nat.add_assoc, e] at this
  rw [Cs.add_at]
  exact this
theorem FA.of_own (hs : ∀ x, (enc x).length = size) {w : World} {B e n : Nat} {v : Value} {xs : List α} (h : w.ownsRow B e size v n (xs.flatMap enc)) (hn : n = xs.length) : ∃ a c, v = .slice a xs.length c ∧ FA enc size w a c xs ∧ (∀ g, a = some g → B ≤ g.block) := by
  obtain ⟨a, c, rfl, hc, hm, hx⟩ := own_any hs h hn
  have hB : ∀ g, a = some g → B ≤ g.block := by
    intro g hg
    subst hg
    rcases h.2 with ⟨h7, _⟩ | ⟨g7, _, _, h7, h8, _⟩
    · cases h7
    · cases h7; exact h8
  refine ⟨a, c, rfl, ⟨hc, hm, ?_⟩, hB⟩
  rcases hx with rfl | ⟨g, rfl, _, hg, hat⟩
  · exact ⟨0, 0, fun h9 => absurd rfl h9, fun j i x u hj => by simp at hj⟩
  · refine ⟨g, 0, fun _ => ⟨rfl, hg⟩, fun j i x u hj hu => ?_⟩
    rw [Nat.zero_add]
    exact hat j i x u hj (by rw [← hs x]; exact (List.getElem?_eq_some_iff.1 hu).1) hu
/-- Things chosen for the elements of a list. -/
theorem choose_list {α β : Type} : ∀ (l : List α) (P : Nat → α × β → Prop), (∀ j x, l[j]? = some x → ∃ y, P j (x, y)) → ∃ T : List (α × β), T.map (·.1) = l ∧ ∀ j t, T[j]? = some t → P j t
  | [], _, _ => ⟨[], rfl, fun j t h => by simp at h⟩
  | x :: l, P, h => by
    obtain ⟨y, hy⟩ := h 0 x rfl
    obtain ⟨T, h1, h2⟩ := choose_list l (fun j => P (j + 1)) (fun j z hz => h (j + 1) z (by simpa using hz))
    refine ⟨(x, y) :: T, by simp [h1], fun j t ht => ?_⟩
    cases j with
    | zero => simp at ht; subst ht; exact hy
    | succ j => exact h2 j t (by simpa using ht)
theorem flat_one (h : ∀ x, ∀ u ∈ enc x, u.oneCell' = true) (xs : List α) : ∀ u ∈ xs.flatMap enc, u.oneCell' = true := fun u hu => by
  obtain ⟨x, _, h2⟩ := List.mem_flatMap.1 hu
  exact h x u h2
end Br

namespace Rc
open Go.Lib
/-! subfields -/
abbrev encS (x : UInt8 × ByteArray) : List Value := [.int .u8 x.1.toNat, .string x.2]
theorem encS_len (x : UInt8 × ByteArray) : (encS x).length = 2 := rfl
theorem encS_one (x : UInt8 × ByteArray) : ∀ u ∈ encS x, u.oneCell' = true := by simp [encS, Value.oneCell']
theorem SubA.fa {w : World} {a : Option Addr} {c : Nat} {xs : List (UInt8 × ByteArray)} (h : SubA w a c xs) : Br.FA encS 2 w a c xs := by
  obtain ⟨b, o, h1, h2⟩ := h.at_
  refine ⟨h.cap, h.max, b, o, h1, fun j i x u hx hu => ?_⟩
  have := h2 j x hx
  match i, hu with
  | 0, hu => injection hu with hu; rw [← hu]; exact this.1
  | 1, hu => injection hu with hu; rw [← hu]; exact this.2
  | i + 2, hu => simp [encS] at hu
theorem SubA.of_fa {w : World} {a : Option Addr} {c : Nat} {xs : List (UInt8 × ByteArray)} (h : Br.FA encS 2 w a c xs) : SubA w a c xs := by
  obtain ⟨b, o, h1, h2⟩ := h.at_
  exact ⟨h.cap, h.max, b, o, h1, fun j x hx => ⟨h2 j 0 x _ hx rfl, h2 j 1 x _ hx rfl⟩⟩
theorem SubA.of_own {w : World} {B e n : Nat} {v : Value} {xs : List (UInt8 × ByteArray)} (h : w.ownsRow B e 2 v n (xs.flatMap encS)) (hn : n = xs.length) : ∃ a c, v = .slice a xs.length c ∧ SubA w a c xs := by
  obtain ⟨a, c, e1, h1, _⟩ := Br.FA.of_own encS_len h hn
  exact ⟨a, c, e1, .of_fa h1⟩
/-! fields -/
/-- A field with the slice of its subfields. -/
abbrev FT := Fl × Option Addr × Nat
abbrev encF (t : FT) : List Value := [.string t.1.tag, .string t.1.ind, .slice t.2.1 t.1.subs.length t.2.2, .int .i64 t.1.auth]
theorem encF_len (t : FT) : (encF t).length = 4 := rfl
theorem f_new (w : World) (g : Nat) (hg : g = w.heap.size) (f : Fl) (sa : Option Addr) (sc : Nat) (t : TypeId) : ∀ j u, (encF (f, sa, sc))[j]? = some u → (w.alloc (.cells #[.string f.tag, .string f.ind, .slice sa f.subs.length sc, .int .i64 f.auth] t)).cell? ((⟨g, 0, none⟩ : Addr).add j) = some u :=
  Br.cells_new_at w g hg _ t
theorem f_one (t : FT) : ∀ u ∈ encF t, u.oneCell' = true := by simp [encF, Value.oneCell']
theorem FldA.of_fa {w : World} {a : Option Addr} {c : Nat} {T : List FT} (h : Br.FA encF 4 w a c T) (hs : ∀ t ∈ T, SubA w t.2.1 t.2.2 t.1.subs) : FldA w a c (T.map (·.1)) := by
  obtain ⟨b, o, h1, h2⟩ := h.at_
  refine ⟨by rw [List.length_map]; exact h.cap, h.max, b, o, fun h9 => h1 (fun h8 => h9 (by rw [h8]; rfl)), fun j f hj => ?_⟩
  rw [List.getElem?_map] at hj
  obtain ⟨x, hx, rfl⟩ := Option.map_eq_some_iff.1 hj
  exact ⟨h2 j 0 x _ hx rfl, h2 j 1 x _ hx rfl, ⟨x.2.1, x.2.2, h2 j 2 x _ hx rfl, hs x (List.mem_of_getElem? hx)⟩, h2 j 3 x _ hx rfl⟩
theorem FldA.of_own {w : World} {B e n : Nat} {v : Value} {T : List FT} (h : w.ownsRow B e 4 v n (T.flatMap encF)) (hn : n = T.length) (hs : ∀ t ∈ T, SubA w t.2.1 t.2.2 t.1.subs) : ∃ a c, v = .slice a (T.map (·.1)).length c ∧ FldA w a c (T.map (·.1)) := by
  obtain ⟨a, c, e1, h1, _⟩ := Br.FA.of_own encF_len h hn
  exact ⟨a, c, by rw [List.length_map]; exact e1, .of_fa h1 hs⟩
theorem FldA.fa {w : World} {a : Option Addr} {c : Nat} {fs : List Fl} (h : FldA w a c fs) : ∃ T : List FT, T.map (·.1) = fs ∧ Br.FA encF 4 w a c T ∧ ∀ t ∈ T, SubA w t.2.1 t.2.2 t.1.subs := by
  obtain ⟨b, o, h1, h2⟩ := h.at_
  obtain ⟨T, e, hT⟩ := Br.choose_list fs (fun j (t : FT) => (w.cell? ⟨b, o + j * 4, none⟩ = some (.string t.1.tag) ∧ w.cell? ⟨b, o + j * 4 + 1, none⟩ = some (.string t.1.ind) ∧ w.cell? ⟨b, o + j * 4 + 2, none⟩ = some (.slice t.2.1 t.1.subs.length t.2.2) ∧ w.cell? ⟨b, o + j * 4 + 3, none⟩ = some (.int .i64 t.1.auth)) ∧ SubA w t.2.1 t.2.2 t.1.subs) (fun j f hf => by
    obtain ⟨d0, d1, ⟨sa, sc, d2, hs⟩, d3⟩ := h2 j f hf
    exact ⟨(sa, sc), ⟨d0, d1, d2, d3⟩, hs⟩)
  refine ⟨T, e, ⟨by rw [← List.length_map (f := fun x : FT => x.1), e]; exact h.cap, h.max, b, o, fun h9 => h1 (fun h8 => h9 (by rw [← e] at h8; simpa using h8)), fun j i x u hx hu => ?_⟩, fun t ht => ?_⟩
  · obtain ⟨d0, d1, d2, d3⟩ := (hT j x hx).1
    match i, hu with
    | 0, hu => injection hu with hu; rw [← hu]; exact d0
    | 1, hu => injection hu with hu; rw [← hu]; exact d1
    | 2, hu => injection hu with hu; rw [← hu]; exact d2
    | 3, hu => injection hu with hu; rw [← hu]; exact d3
    | i + 4, hu => simp [encF] at hu
  · obtain ⟨j, hj⟩ := List.getElem?_of_mem ht
    exact (hT j t hj).2
/-! records -/
/-- A record with the slice of its fields. -/
abbrev RT := Rd × Option Addr × Nat
abbrev encR (t : RT) : List Value := [.int .i64 t.1.id, .int .i64 t.1.ver, .int .i64 t.1.kind, .string t.1.lang, .slice t.2.1 t.1.fields.length t.2.2]
theorem encR_len (t : RT) : (encR t).length = 5 := rfl
theorem r_one (t : RT) : ∀ u ∈ encR t, u.oneCell' = true := by simp [encR, Value.oneCell']
theorem r_new (w : World) (g : Nat) (hg : g = w.heap.size) (r : Rd) (fa : Option Addr) (fc : Nat) (t : TypeId) : ∀ j u, (encR (r, fa, fc))[j]? = some u → (w.alloc (.cells #[.int .i64 r.id, .int .i64 r.ver, .int .i64 r.kind, .string r.lang, .slice fa r.fields.length fc] t)).cell? ((⟨g, 0, none⟩ : Addr).add j) = some u :=
  Br.cells_new_at w g hg _ t
/-- The slice holds these records. -/
structure RdA (w : World) (a : Option Addr) (c : Nat) (rs : List Rd) : Prop where
  cap : rs.length ≤ c
  max : c ≤ maxLen
  at_ : ∃ b o, (rs ≠ [] → a = some ⟨b, o, none⟩ ∧ b < w.heap.size) ∧ ∀ (j : Nat) r, rs[j]? = some r → w.cell? ⟨b, o + j * 5, none⟩ = some (.int .i64 r.id) ∧ w.cell? ⟨b, o + j * 5 + 1, none⟩ = some (.int .i64 r.ver) ∧ w.cell? ⟨b, o + j * 5 + 2, none⟩ = some (.int .i64 r.kind) ∧ w.cell? ⟨b, o + j * 5 + 3, none⟩ = some (.string r.lang) ∧
    ∃ fa fc, w.cell? ⟨b, o + j * 5 + 4, none⟩ = some (.slice fa r.fields.length fc) ∧ FldA w fa fc r.fields
theorem RdA.below {w w' : World} {a : Option Addr} {c : Nat} {rs : List Rd} (h : RdA w a c rs) (hb : Below w.heap.size w w') : RdA w' a c rs := by
  obtain ⟨b, o, h1, h2⟩ := h.at_
  refine ⟨h.cap, h.max, b, o, fun hn => ⟨(h1 hn).1, Nat.lt_of_lt_of_le (h1 hn).2 hb.size⟩, fun j x hx => ?_⟩
  obtain ⟨c0, c1, c2, c3, fa, fc, c4, hf⟩ := h2 j x hx
  exact ⟨cell_later hb c0, cell_later hb c1, cell_later hb c2, cell_later hb c3, fa, fc, cell_later hb c4, hf.below hb⟩
theorem RdA.get {w : World} {a : Option Addr} {c : Nat} {rs : List Rd} (h : RdA w a c rs) {k : Nat} {r : Rd} (hk : rs[k]? = some r) :
    ∃ b o fa fc, a = some ⟨b, o, none⟩ ∧ b < w.heap.size ∧ w.cell? ⟨b, o + k * 5, none⟩ = some (.int .i64 r.id) ∧ w.cell? ⟨b, o + k * 5 + 1, none⟩ = some (.int .i64 r.ver) ∧ w.cell? ⟨b, o + k * 5 + 2, none⟩ = some (.int .i64 r.kind) ∧ w.cell? ⟨b, o + k * 5 + 3, none⟩ = some (.string r.lang) ∧
      w.cell? ⟨b, o + k * 5 + 4, none⟩ = some (.slice fa r.fields.length fc) ∧ FldA w fa fc r.fields := by
  obtain ⟨b, o, h1, h2⟩ := h.at_
  have hne : rs ≠ [] := by intro h0; subst h0; simp at hk
  obtain ⟨c0, c1, c2, c3, fa, fc, c4, hf⟩ := h2 k r hk
  exact ⟨b, o, fa, fc, (h1 hne).1, (h1 hne).2, c0, c1, c2, c3, c4, hf⟩
theorem RdA.of_fa {w : World} {a : Option Addr} {c : Nat} {T : List RT} (h : Br.FA encR 5 w a c T) (hs : ∀ t ∈ T, FldA w t.2.1 t.2.2 t.1.fields) : RdA w a c (T.map (·.1)) := by
  obtain ⟨b, o, h1, h2⟩ := h.at_
  refine ⟨by rw [List.length_map]; exact h.cap, h.max, b, o, fun h9 => h1 (fun h8 => h9 (by rw [h8]; rfl)), fun j f hj => ?_⟩
  rw [List.getElem?_map] at hj
  obtain ⟨x, hx, rfl⟩ := Option.map_eq_some_iff.1 hj
  exact ⟨h2 j 0 x _ hx rfl, h2 j 1 x _ hx rfl, h2 j 2 x _ hx rfl, h2 j 3 x _ hx rfl, x.2.1, x.2.2, h2 j 4 x _ hx rfl, hs x (List.mem_of_getElem? hx)⟩
theorem RdA.of_own {w : World} {B e n : Nat} {v : Value} {T : List RT} (h : w.ownsRow B e 5 v n (T.flatMap encR)) (hn : n = T.length) (hs : ∀ t ∈ T, FldA w t.2.1 t.2.2 t.1.fields) : ∃ a c, v = .slice a (T.map (·.1)).length c ∧ RdA w a c (T.map (·.1)) := by
  obtain ⟨a, c, e1, h1, _⟩ := Br.FA.of_own encR_len h hn
  exact ⟨a, c, by rw [List.length_map]; exact e1, .of_fa h1 hs⟩
theorem RdA.fa {w : World} {a : Option Addr} {c : Nat} {rs : List Rd} (h : RdA w a c rs) : ∃ T : List RT, T.map (·.1) = rs ∧ Br.FA encR 5 w a c T ∧ ∀ t ∈ T, FldA w t.2.1 t.2.2 t.1.fields := by
  obtain ⟨b, o, h1, h2⟩ := h.at_
  obtain ⟨T, e, hT⟩ := Br.choose_list rs (fun j (t : RT) => (w.cell? ⟨b, o + j * 5, none⟩ = some (.int .i64 t.1.id) ∧ w.cell? ⟨b, o + j * 5 + 1, none⟩ = some (.int .i64 t.1.ver) ∧ w.cell? ⟨b, o + j * 5 + 2, none⟩ = some (.int .i64 t.1.kind) ∧ w.cell? ⟨b, o + j * 5 + 3, none⟩ = some (.string t.1.lang) ∧ w.cell? ⟨b, o + j * 5 + 4, none⟩ = some (.slice t.2.1 t.1.fields.length t.2.2)) ∧ FldA w t.2.1 t.2.2 t.1.fields) (fun j f hf => by
    obtain ⟨c0, c1, c2, c3, fa, fc, c4, hs⟩ := h2 j f hf
    exact ⟨(fa, fc), ⟨c0, c1, c2, c3, c4⟩, hs⟩)
  refine ⟨T, e, ⟨by rw [← List.length_map (f := fun x : RT => x.1), e]; exact h.cap, h.max, b, o, fun h9 => h1 (fun h8 => h9 (by rw [← e] at h8; simpa using h8)), fun j i x u hx hu => ?_⟩, fun t ht => ?_⟩
  · obtain ⟨d0, d1, d2, d3, d4⟩ := (hT j x hx).1
    match i, hu with
    | 0, hu => injection hu with hu; rw [← hu]; exact d0
    | 1, hu => injection hu with hu; rw [← hu]; exact d1
    | 2, hu => injection hu with hu; rw [← hu]; exact d2
    | 3, hu => injection hu with hu; rw [← hu]; exact d3
    | 4, hu => injection hu with hu; rw [← hu]; exact d4
    | i + 5, hu => simp [encR] at hu
  · obtain ⟨j, hj⟩ := List.getElem?_of_mem ht
    exact (hT j t hj).2
end Rc
theorem info_sub : (Tryz.prog.info? 57).map (fun i => (i.zero, i.size, i.bytes)) = some (some (.agg #[.int .u8 0, .string ⟨#[]⟩]), 2, 24) := by kernel_rfl
theorem info_fld : (Tryz.prog.info? 55).map (fun i => (i.zero, i.size, i.bytes)) = some (some (.agg #[.string ⟨#[]⟩, .string ⟨#[]⟩, .slice none 0 0, .int .i64 0]), 4, 64) := by kernel_rfl
theorem info_rec : (Tryz.prog.info? 24).map (fun i => (i.zero, i.size, i.bytes)) = some (some (.agg #[.int .i64 0, .int .i64 0, .int .i64 0, .string ⟨#[]⟩, .slice none 0 0]), 5, 64) := by kernel_rfl
end Go.Proofs.YtcjalpegffldaaaGreatDoor
