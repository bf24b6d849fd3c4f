/- Layer 25: a list of items that came in, opened. -/
import Derived.Test.YtccbadbfijkaeaaGreatDoorCdB
import Derived.Test.YtccbadbfijkaeaaGreatDoorCpB
namespace Go.Proofs.YtccbadbfijkaeaaGreatDoor
open Go.ChangeShapes Go.WideShapes Go.ChangeAt Go.RowKit Go.Deep
set_option maxRecDepth 100000

section
variable {H : Type} {enc : TypeId × Value → H} {W : World} {base : Nat} {sp : Nat → Bool} {hd : Bool}
theorem one_int {P : Program} {fuel : Nat} {t : TypeId} {cs : List Value} {x : DataW H × List MemPlace} (hu : P.underlying t = some (.int .i64)) (h : DataW.trod enc P W base sp hd fuel t cs = some x) : ∃ n : Int, cs = [.int .i64 n] ∧ -9223372036854775808 ≤ n ∧ n ≤ 9223372036854775807 := by
  obtain ⟨n, e, _, hw⟩ := DataW.trod_int hu h
  exact ⟨n, e, wf_i64 hw⟩
theorem take1 {cs : List Value} {k : Nat} {v : Value} (h : (cs.drop k).take 1 = [v]) : cs[k]? = some v := by
  have := congrArg (·[0]?) h
  simpa [List.getElem?_take, List.getElem?_drop] using this
theorem open_item {fuel : Nat} {cs : List Value} {x : DataW H × List MemPlace} (h : DataW.trod enc Tryz.prog W base sp hd fuel 46 cs = some x) :
    ∃ it : Cp.It, cs = [.int .i64 it.id, .int .i64 it.rec_, .int .i64 it.branch, .int .i64 it.kind, .int .i64 it.price, .string it.call, .int .i64 it.state, .int .i64 it.cb, .int .i64 it.who, .int .i64 it.to_] ∧ -9223372036854775808 ≤ it.branch ∧ it.branch ≤ 9223372036854775807 := by
  obtain ⟨xs, n, _, _, hl, hxl, hg⟩ := DataW.trod_struct Tryz.underlying46 h
  have hl10 : cs.length = 10 := hl.trans (by kernel_rfl)
  match cs, hl10 with
  | [c0, c1, c2, c3, c4, c5, c6, c7, c8, c9], _ =>
    match xs, hxl with
    | [x0, x1, x2, x3, x4, x5, x6], _ =>
      have k3 : Tryz.prog.cellsOf 3 = 1 := by kernel_rfl
      have k9 : Tryz.prog.cellsOf 9 = 1 := by kernel_rfl
      have k44 : Tryz.prog.cellsOf 44 = 4 := by kernel_rfl
      obtain ⟨n0, e0, l0, u0⟩ := one_int Tryz.underlying3 (show DataW.trod enc Tryz.prog W base sp hd n 3 [c0] = some x0 from by simpa [k3] using hg 0 _ rfl)
      obtain ⟨n1, e1, l1, u1⟩ := one_int Tryz.underlying3 (show DataW.trod enc Tryz.prog W base sp hd n 3 [c1] = some x1 from by simpa [k3] using hg 1 _ rfl)
      obtain ⟨n2, e2, l2, u2⟩ := one_int Tryz.underlying3 (show DataW.trod enc Tryz.prog W base sp hd n 3 [c2] = some x2 from by simpa [k3] using hg 2 _ rfl)
      obtain ⟨n3, e3, l3, u3⟩ := one_int Tryz.underlying3 (show DataW.trod enc Tryz.prog W base sp hd n 3 [c3] = some x3 from by simpa [k3] using hg 3 _ rfl)
      obtain ⟨n4, e4, l4, u4⟩ := one_int Tryz.underlying3 (show DataW.trod enc Tryz.prog W base sp hd n 3 [c4] = some x4 from by simpa [k3] using hg 4 _ rfl)
      obtain ⟨n5, e5, _, _⟩ := DataW.trod_string Tryz.underlying9 (show DataW.trod enc Tryz.prog W base sp hd n 9 [c5] = some x5 from by simpa [k9] using hg 5 _ rfl)
      obtain ⟨ys, m, _, _, _, hyl, hk⟩ := DataW.trod_struct Tryz.underlying44 (show DataW.trod enc Tryz.prog W base sp hd n 44 [c6, c7, c8, c9] = some x6 from by simpa [k44] using hg 6 _ rfl)
      match ys, hyl with
      | [y0, y1, y2, y3], _ =>
        obtain ⟨n6, e6, _, _⟩ := one_int Tryz.underlying3 (show DataW.trod enc Tryz.prog W base sp hd m 3 [c6] = some y0 from by simpa [k3] using hk 0 _ rfl)
        obtain ⟨n7, e7, _, _⟩ := one_int Tryz.underlying3 (show DataW.trod enc Tryz.prog W base sp hd m 3 [c7] = some y1 from by simpa [k3] using hk 1 _ rfl)
        obtain ⟨n8, e8, _, _⟩ := one_int Tryz.underlying3 (show DataW.trod enc Tryz.prog W base sp hd m 3 [c8] = some y2 from by simpa [k3] using hk 2 _ rfl)
        obtain ⟨n9, e9, _, _⟩ := one_int Tryz.underlying3 (show DataW.trod enc Tryz.prog W base sp hd m 3 [c9] = some y3 from by simpa [k3] using hk 3 _ rfl)
        injection e0 with e0
        injection e1 with e1
        injection e2 with e2
        injection e3 with e3
        injection e4 with e4
        injection e5 with e5
        injection e6 with e6
        injection e7 with e7
        injection e8 with e8
        injection e9 with e9
        exact ⟨⟨n0, n1, n2, n3, n4, n5, n6, n7, n8, n9⟩, by rw [e0, e1, e2, e3, e4, e5, e6, e7, e8, e9], l2, u2⟩
/-- The items, opened. -/
theorem open_items {r : Reach} {b0 : Nat} {v : Value} {d : DataW H} {ps : List MemPlace} (hv : Value.okWide Tryz.prog W r b0 31 v) (h : DataW.Trod enc Tryz.prog W 0 sp hd 31 v d ps) :
    ∃ (items : List Cp.It) (a : Option Addr) (c : Nat), v = .slice a items.length c ∧ Cp.ItA W a c items ∧ ∀ x ∈ items, -9223372036854775808 ≤ x.branch ∧ x.branch ≤ 9223372036854775807 := by
  obtain ⟨fuel, hf⟩ := h
  obtain ⟨a, len, cap, rfl⟩ := okWide_slice Tryz.underlying31 hv
  have k10 : Tryz.prog.cellsOf 46 = 10 := by kernel_rfl
  rcases open_slice Tryz.underlying31 hf with ⟨e, _⟩ | ⟨a', len', cap', m, n, D, Pl, e, hb, hl, hm, hmm, _, hel⟩
  · simp [Value.cells] at e
    obtain ⟨rfl, rfl, rfl⟩ := e
    exact ⟨[], none, 0, rfl, ⟨Nat.le_refl _, by unfold maxLen; omega, 0, 0, fun h => absurd rfl h, fun j x hx => by simp at hx⟩, fun x hx => by simp at hx⟩
  · simp [Value.cells] at e
    obtain ⟨rfl, rfl, rfl⟩ := e
    have hlm : len ≤ m := by rw [hmm]; split <;> omega
    have hit : ∀ i, i < len → ∃ it : Cp.It, (a'.block < W.heap.size ∧ ∀ j, j < 10 → W.cell? ((a'.add (i * 10)).add j) = [Value.int .i64 it.id, .int .i64 it.rec_, .int .i64 it.branch, .int .i64 it.kind, .int .i64 it.price, .string it.call, .int .i64 it.state, .int .i64 it.cb, .int .i64 it.who, .int .i64 it.to_][j]?) ∧ -9223372036854775808 ≤ it.branch ∧ it.branch ≤ 9223372036854775807 := fun i hi => by
      obtain ⟨cs', hc, ht⟩ := hel i (by omega)
      obtain ⟨it, rfl, h1, h2⟩ := open_item ht
      rw [k10] at hc
      have hlt := World.cells?_block hc (by omega)
      have hblk : (a'.add (i * 10)).block = a'.block := by unfold Addr.add; split <;> rfl
      rw [hblk] at hlt
      exact ⟨it, ⟨hlt, (World.cells?_some hc).2.2⟩, h1, h2⟩
    have : Inhabited Cp.It := ⟨⟨0, 0, 0, 0, 0, ⟨#[]⟩, 0, 0, 0, 0⟩⟩
    obtain ⟨f, hf2⟩ := choose_lt hit
    have hget : ∀ (j : Nat) x, ((List.range len).map f)[j]? = some x → j < len ∧ x = f j := fun j x hx => by
      rw [List.getElem?_map] at hx
      obtain ⟨y, hy, rfl⟩ := Option.map_eq_some_iff.1 hx
      have h1 : j < len := by have := (List.getElem?_eq_some_iff.1 hy).1; simpa using this
      rw [List.getElem?_range h1] at hy
      injection hy with hy
      exact ⟨h1, by rw [hy]⟩
    obtain ⟨b, o, spot⟩ := a'
    refine ⟨(List.range len).map f, some ⟨b, o, spot⟩, cap, by simp, ⟨by simpa using hl, hm, b, o, fun hne => ?_, fun j x hx => ?_⟩, fun x hx => ?_⟩
    · have h0 : 0 < len := by
        rcases Nat.eq_zero_or_pos len with h | h
        · subst h; simp at hne
        · exact h
      have g0 := (hf2 0 h0).1.2 0 (by omega)
      have hs : spot = none := by simpa [Addr.add] using World.cell?_spot g0
      exact ⟨by rw [hs], (hf2 0 h0).1.1⟩
    · obtain ⟨hj, rfl⟩ := hget j x hx
      have g := (hf2 j hj).1.2
      have g0 := (hf2 0 (by omega)).1.2 0 (by omega)
      have hs : spot = none := by simpa [Addr.add] using World.cell?_spot g0
      subst hs
      simp only [add_plain] at g
      exact ⟨g 0 (by omega), g 1 (by omega), g 2 (by omega), g 3 (by omega), g 4 (by omega), g 5 (by omega), g 6 (by omega), g 7 (by omega), g 8 (by omega), g 9 (by omega)⟩
    · obtain ⟨k, hk, rfl⟩ := List.mem_map.1 hx
      exact (hf2 k (by simpa using hk)).2
end
end Go.Proofs.YtccbadbfijkaeaaGreatDoor
