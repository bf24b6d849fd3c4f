/- The reference's tests of moderate size: what the calls return. -/
import Derived.Test.YtlinaeklhkfbcaaGreatDoorRgA
import Derived.Test.YtlinaeklhkfbcaaGreatDoorRcB
import Derived.Test.YtlinaeklhkfbcaaGreatDoorTxE
namespace Go.Proofs.YtlinaeklhkfbcaaGreatDoor
open Go.RowKit
set_option maxRecDepth 100000

namespace Rc
theorem all_take {α : Type} {p : α → Prop} {l : List α} {k : Nat} {x : α} (h : l[k]? = some x) (hp : p x) (ha : ∀ y ∈ l.take k, p y) : ∀ y ∈ l.take (k + 1), p y := by
  intro y hy
  rw [List.take_add_one, h, List.mem_append] at hy
  rcases hy with hy | hy
  · exact ha y hy
  · simp at hy; rw [hy]; exact hp
theorem smallF_true {f : Fl} (h1 : f.subs.length ≤ 20) (h2 : ∀ x ∈ f.subs, x.2.size ≤ 300) : smallF f = true := decide_eq_true ⟨h1, h2⟩
theorem smallF_len {f : Fl} (h1 : ¬ f.subs.length ≤ 20) : smallF f = false := decide_eq_false fun h => h1 h.1
theorem smallF_at {f : Fl} {k : Nat} {x : UInt8 × ByteArray} (h : f.subs[k]? = some x) (h2 : ¬ x.2.size ≤ 300) : smallF f = false := decide_eq_false fun h9 => h2 (h9.2 x (List.mem_of_getElem? h))
theorem smallR_true {fs : List Fl} (h1 : fs.length ≤ 70) (h2 : ∀ f ∈ fs, smallF f = true) : smallR fs = true := decide_eq_true ⟨h1, h2⟩
theorem smallR_len {fs : List Fl} (h1 : ¬ fs.length ≤ 70) : smallR fs = false := decide_eq_false fun h => h1 h.1
theorem smallR_at {fs : List Fl} {k : Nat} {f : Fl} (h : fs[k]? = some f) (h2 : smallF f = false) : smallR fs = false := decide_eq_false fun h9 => by have := h9.2 f (List.mem_of_getElem? h); rw [h2] at this; cases this
theorem smallF_of {f : Fl} (h : smallF f = true) : f.subs.length ≤ 20 ∧ ∀ x ∈ f.subs, x.2.size ≤ 300 := of_decide_eq_true h
theorem smallR_of {fs : List Fl} (h : smallR fs = true) : fs.length ≤ 70 ∧ ∀ f ∈ fs, smallF f = true := of_decide_eq_true h
end Rc

set_option maxHeartbeats 800000 in
theorem SmallField_c (f : Rc.Fl) (a : Option Addr) (c : Nat) (w : World) (h : Rc.SubA w a c f.subs) :
    Calls Tryz.prog 7 #[.agg #[.string f.tag, .string f.ind, .slice a f.subs.length c, .int .i64 f.auth]] w fun e w' => e = .returned (.bool (Rc.smallF f)) ∧ Below w.heap.size w w' := by
  obtain ⟨W, hW⟩ : ∃ W, w.alloc (.cells #[.string f.tag, .string f.ind, .slice a f.subs.length c, .int .i64 f.auth] 24) = W := ⟨_, rfl⟩
  have hB : Below w.heap.size w W := by rw [← hW]; exact Tx.newb _ _
  have c2 : W.cell? ⟨w.heap.size, 2, none⟩ = some (.slice a f.subs.length c) := by rw [← hW]; simp
  have hS := h.below hB
  have hcap := h.cap
  have hmx : maxLen = 9223372036854775807 := rfl
  have hmax := h.max
  by_cases hl : f.subs.length ≤ 20
  · go_enter Tryz.func7, Tryz.ntmps7
    go_wp2
    clear hW
    go_loop [3] (fun i => ∃ (k : Nat), k ≤ f.subs.length ∧ i = .int .i64 k ∧ Hid (∀ x ∈ f.subs.take k, x.2.size ≤ 300)) (fun i => f.subs.length - (intOf i).toNat)
    case atStart => exact ⟨0, Nat.zero_le _, rfl, Lib.hid (by simp)⟩
    case round =>
      obtain ⟨k, hk, rfl, hE⟩ := hrel
      by_cases hlt : k < f.subs.length
      · obtain ⟨x, hx⟩ : ∃ x, f.subs[k]? = some x := ⟨_, List.getElem?_eq_getElem hlt⟩
        obtain ⟨b, o, rfl, hbl, d0, d1⟩ := hS.get hx
        have HX := Lib.hid hx; clear hx
        by_cases hz : x.2.size ≤ 300
        · have hE2 := Lib.hid (Rc.all_take HX.out hz hE.out)
          go_wp2
          go_round
          case rel => exact ⟨k + 1, by omega, by go_num, hE2⟩
          case measure => simp [intOf]; omega
        · have HF := Lib.hid (Rc.smallF_at HX.out hz)
          go_wp2
          go_ret
          exact ⟨Tx.retb HF.out.symm, hB⟩
      · obtain rfl : k = f.subs.length := by omega
        have hE2 := hE.out
        rw [List.take_length] at hE2
        have HF := Lib.hid (Rc.smallF_true hl hE2)
        clear hE2
        go_wp2
        go_ret
        exact ⟨Tx.retb HF.out.symm, hB⟩
  · have HF := Lib.hid (Rc.smallF_len hl)
    go_enter Tryz.func7, Tryz.ntmps7
    go_wp2
    clear hW
    go_ret
    exact ⟨Tx.retb HF.out.symm, hB⟩

set_option maxHeartbeats 800000 in
theorem Small_c (fs : List Rc.Fl) (a : Option Addr) (c : Nat) (id ver kind : Int) (lang : ByteArray) (w : World) (h : Rc.FldA w a c fs) :
    Calls Tryz.prog 17 #[.agg #[.int .i64 id, .int .i64 ver, .int .i64 kind, .string lang, .slice a fs.length c]] w fun e w' => e = .returned (.bool (Rc.smallR fs)) ∧ Below w.heap.size w w' := by
  obtain ⟨W, hW⟩ : ∃ W, w.alloc (.cells #[.int .i64 id, .int .i64 ver, .int .i64 kind, .string lang, .slice a fs.length c] 38) = W := ⟨_, rfl⟩
  have hB : Below w.heap.size w W := by rw [← hW]; exact Tx.newb _ _
  have c4 : W.cell? ⟨w.heap.size, 4, none⟩ = some (.slice a fs.length c) := by rw [← hW]; simp
  have hWs : w.heap.size < W.heap.size := by rw [← hW]; simp
  have hcap := h.cap
  have hmx : maxLen = 9223372036854775807 := rfl
  have hmax := h.max
  by_cases hl : fs.length ≤ 70
  · go_enter Tryz.func17, Tryz.ntmps17
    go_wp2
    clear hW
    go_loopw [3] (fun i wr => ∃ (k : Nat), k ≤ fs.length ∧ i = .int .i64 k ∧ Hid (∀ f ∈ fs.take k, Rc.smallF f = true) ∧ Below W.heap.size W wr) (fun i _ => fs.length - (intOf i).toNat)
    case atStart => exact ⟨0, Nat.zero_le _, rfl, Lib.hid (by simp), Below.refl _ _⟩
    case round =>
      obtain ⟨k, hk, rfl, hE, hb⟩ := hrel
      have hbw := Tx.step hB hb
      replace c4 := cell_later hb c4
      by_cases hlt : k < fs.length
      · obtain ⟨f, hf⟩ : ∃ f, fs[k]? = some f := ⟨_, List.getElem?_eq_getElem hlt⟩
        obtain ⟨b, o, sa, sc, rfl, hbl, d0, d1, d2, d3, hsub⟩ := h.get hf
        replace d0 := cell_later hbw d0
        replace d1 := cell_later hbw d1
        replace d2 := cell_later hbw d2
        replace d3 := cell_later hbw d3
        have hsub2 := hsub.below hbw
        have HF := Lib.hid hf; clear hf
        cases hz : Rc.smallF f with
        | true =>
          have hE2 := Lib.hid (Rc.all_take HF.out hz hE.out)
          have HZ := Lib.hid hz; clear hz
          go_wp2_with (go_at_call 7; refine (SmallField_c f sa sc _ hsub2).mono ?_; rintro e w1 ⟨rfl, hb1⟩; rw [HZ.out])
          go_roundw
          case rel => exact ⟨k + 1, by omega, by go_num, hE2, Tx.step hb hb1⟩
          case measure => simp [intOf]; omega
        | false =>
          have HR := Lib.hid (Rc.smallR_at HF.out hz)
          have HZ := Lib.hid hz; clear hz
          go_wp2_with (go_at_call 7; refine (SmallField_c f sa sc _ hsub2).mono ?_; rintro e w1 ⟨rfl, hb1⟩; rw [HZ.out])
          go_ret
          exact ⟨Tx.retb HR.out.symm, Tx.step hbw hb1⟩
      · obtain rfl : k = fs.length := by omega
        have hE2 := hE.out
        rw [List.take_length] at hE2
        have HF := Lib.hid (Rc.smallR_true hl hE2)
        clear hE2
        go_wp2
        go_ret
        exact ⟨Tx.retb HF.out.symm, hbw⟩
  · have HF := Lib.hid (Rc.smallR_len hl)
    go_enter Tryz.func17, Tryz.ntmps17
    go_wp2
    clear hW
    go_ret
    exact ⟨Tx.retb HF.out.symm, hB⟩
end Go.Proofs.YtlinaeklhkfbcaaGreatDoor
