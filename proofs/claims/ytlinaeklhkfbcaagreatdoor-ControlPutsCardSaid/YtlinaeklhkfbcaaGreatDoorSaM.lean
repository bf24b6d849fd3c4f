/- Equal fields and records compared; records of moderate size: what the calls return. -/
import Derived.Test.YtlinaeklhkfbcaaGreatDoorLoM
import Derived.Test.YtlinaeklhkfbcaaGreatDoorRgD
import Derived.StillTailTactics
namespace Go.Proofs.YtlinaeklhkfbcaaGreatDoor
open Go.RowKit
set_option maxRecDepth 100000

set_option maxHeartbeats 1600000 in
theorem r07_Same_c (f : Rc.Fl) (a b : Option Addr) (c d : Nat) (w : World) (hx : Rc.SubA w a c f.subs) (hy : Rc.SubA w b d f.subs) :
    Calls Tryz.prog 10 #[.agg #[.string f.tag, .string f.ind, .slice a f.subs.length c, .int .i64 f.auth], .agg #[.string f.tag, .string f.ind, .slice b f.subs.length d, .int .i64 f.auth]] w fun e w' => e = .returned (.bool true) ∧ Below w.heap.size w w' := by
  have hmx : maxLen = 9223372036854775807 := rfl
  have hcx := hx.cap
  have hcy := hy.cap
  have hmx1 := hx.max
  have hmy1 := hy.max
  obtain ⟨W, hW⟩ : ∃ W, (w.alloc (.cells #[.string f.tag, .string f.ind, .slice a f.subs.length c, .int .i64 f.auth] 24)).alloc (.cells #[.string f.tag, .string f.ind, .slice b f.subs.length d, .int .i64 f.auth] 24) = W := ⟨_, rfl⟩
  have hB : Below w.heap.size w W := by rw [← hW]; exact (Tx.newb _ _).alloc (Tx.newb w _).size _
  have x2 : W.cell? ⟨w.heap.size, 2, none⟩ = some (.slice a f.subs.length c) := by rw [← hW]; simp
  have y2 : W.cell? ⟨w.heap.size + 1, 2, none⟩ = some (.slice b f.subs.length d) := by rw [← hW]; simp
  have x0 : W.cell? ⟨w.heap.size, 0, none⟩ = some (.string f.tag) := by rw [← hW]; simp
  have y0 : W.cell? ⟨w.heap.size + 1, 0, none⟩ = some (.string f.tag) := by rw [← hW]; simp
  have x1 : W.cell? ⟨w.heap.size, 1, none⟩ = some (.string f.ind) := by rw [← hW]; simp
  have y1 : W.cell? ⟨w.heap.size + 1, 1, none⟩ = some (.string f.ind) := by rw [← hW]; simp
  have x3 : W.cell? ⟨w.heap.size, 3, none⟩ = some (.int .i64 f.auth) := by rw [← hW]; simp
  have y3 : W.cell? ⟨w.heap.size + 1, 3, none⟩ = some (.int .i64 f.auth) := by rw [← hW]; simp
  go_enter Tryz.func10, Tryz.ntmps10
  go_wp2
  clear hW
  go_loopw [5] (fun i wr => ∃ k : Nat, k ≤ f.subs.length ∧ i = .int .i64 k ∧ Below W.heap.size W wr) (fun i _ => f.subs.length - (intOf i).toNat)
  case atStart => exact ⟨0, Nat.zero_le _, rfl, Below.refl _ _⟩
  case round =>
    obtain ⟨k, hk, rfl, hb⟩ := hrel
    have hbw := Tx.step hB hb
    have x2 := cell_later hb x2
    have y2 := cell_later hb y2
    by_cases hlt : k < f.subs.length
    · obtain ⟨s, hs⟩ : ∃ s, f.subs[k]? = some s := ⟨_, List.getElem?_eq_getElem hlt⟩
      obtain ⟨b1, o1, rfl, _, c0, c1⟩ := hx.get hs
      obtain ⟨b2, o2, rfl, _, d0, d1⟩ := hy.get hs
      replace c0 := cell_later hbw c0
      replace c1 := cell_later hbw c1
      replace d0 := cell_later hbw d0
      replace d1 := cell_later hbw d1
      clear hs
      go_wp2
      go_quiet (fail)
      go_wp2
      go_roundw
      case rel => exact ⟨k + 1, by omega, by go_num, Tx.below_drewN hb _⟩
      case measure => simp [intOf]; omega
    · obtain rfl : k = f.subs.length := by omega
      go_wp2
      go_ret
      exact ⟨rfl, hbw⟩

set_option maxHeartbeats 1600000 in
theorem r08_SameFields_c (fs : List Rc.Fl) (a b : Option Addr) (c d : Nat) (w : World) (hx : Rc.FldA w a c fs) (hy : Rc.FldA w b d fs) :
    Calls Tryz.prog 71 #[.slice a fs.length c, .slice b fs.length d] w fun e w' => e = .returned (.bool true) ∧ Below w.heap.size w w' := by
  have hmx : maxLen = 9223372036854775807 := rfl
  have hcx := hx.cap
  have hcy := hy.cap
  have hmx1 := hx.max
  have hmy1 := hy.max
  go_enter Tryz.func71, Tryz.ntmps71
  go_wp2
  go_loopw [5] (fun i wr => ∃ k : Nat, k ≤ fs.length ∧ i = .int .i64 k ∧ Below w.heap.size w wr) (fun i _ => fs.length - (intOf i).toNat)
  case atStart => exact ⟨0, Nat.zero_le _, rfl, Below.refl _ _⟩
  case round =>
    obtain ⟨k, hk, rfl, hb⟩ := hrel
    by_cases hlt : k < fs.length
    · obtain ⟨f, hf⟩ : ∃ f, fs[k]? = some f := ⟨_, List.getElem?_eq_getElem hlt⟩
      obtain ⟨b1, o1, sa, sc, rfl, _, c0, c1, c2, c3, hs1⟩ := hx.get hf
      obtain ⟨b2, o2, ta, tc, rfl, _, d0, d1, d2, d3, hs2⟩ := hy.get hf
      replace c0 := cell_later hb c0
      replace c1 := cell_later hb c1
      replace c2 := cell_later hb c2
      replace c3 := cell_later hb c3
      replace d0 := cell_later hb d0
      replace d1 := cell_later hb d1
      replace d2 := cell_later hb d2
      replace d3 := cell_later hb d3
      have HX := Lib.hid (hs1.below hb)
      have HY := Lib.hid (hs2.below hb)
      clear hf hs1 hs2
      go_wp2
      go_still_tail 8, (by kernel_rfl)
      have hbq : Below wr.heap.size wr wr.drew := (Below.refl _ _).drew
      change wpList _ _ _ _ _ wr.drew
      generalize wr.drew = w6 at hbq ⊢
      go_wp2_with (go_at_call 10; refine (r07_Same_c f sa ta sc tc _ (HX.out.below hbq) (HY.out.below hbq)).mono ?_; rintro e w1 ⟨rfl, hb1⟩)
      go_roundw
      case rel => exact ⟨k + 1, by omega, by go_num, Tx.step (Tx.step hb hbq) hb1⟩
      case measure => simp [intOf]; omega
    · obtain rfl : k = fs.length := by omega
      go_wp2
      go_ret
      exact ⟨rfl, hb⟩

set_option maxHeartbeats 1600000 in
theorem r08_Same_c (r : Rc.Rd) (a b : Option Addr) (c d : Nat) (w : World) (hx : Rc.FldA w a c r.fields) (hy : Rc.FldA w b d r.fields) :
    Calls Tryz.prog 37 #[.agg #[.int .i64 r.id, .int .i64 r.ver, .int .i64 r.kind, .string r.lang, .slice a r.fields.length c], .agg #[.int .i64 r.id, .int .i64 r.ver, .int .i64 r.kind, .string r.lang, .slice b r.fields.length d]] w fun e w' => e = .returned (.bool true) ∧ Below w.heap.size w w' := by
  obtain ⟨W, hW⟩ : ∃ W, (w.alloc (.cells #[.int .i64 r.id, .int .i64 r.ver, .int .i64 r.kind, .string r.lang, .slice a r.fields.length c] 38)).alloc (.cells #[.int .i64 r.id, .int .i64 r.ver, .int .i64 r.kind, .string r.lang, .slice b r.fields.length d] 38) = W := ⟨_, rfl⟩
  have hB : Below w.heap.size w W := by rw [← hW]; exact (Tx.newb _ _).alloc (Tx.newb w _).size _
  have x4 : W.cell? ⟨w.heap.size, 4, none⟩ = some (.slice a r.fields.length c) := by rw [← hW]; simp
  have y4 : W.cell? ⟨w.heap.size + 1, 4, none⟩ = some (.slice b r.fields.length d) := by rw [← hW]; simp
  have x0 : W.cell? ⟨w.heap.size, 0, none⟩ = some (.int .i64 r.id) := by rw [← hW]; simp
  have y0 : W.cell? ⟨w.heap.size + 1, 0, none⟩ = some (.int .i64 r.id) := by rw [← hW]; simp
  have x1 : W.cell? ⟨w.heap.size, 1, none⟩ = some (.int .i64 r.ver) := by rw [← hW]; simp
  have y1 : W.cell? ⟨w.heap.size + 1, 1, none⟩ = some (.int .i64 r.ver) := by rw [← hW]; simp
  have x2 : W.cell? ⟨w.heap.size, 2, none⟩ = some (.int .i64 r.kind) := by rw [← hW]; simp
  have y2 : W.cell? ⟨w.heap.size + 1, 2, none⟩ = some (.int .i64 r.kind) := by rw [← hW]; simp
  have x3 : W.cell? ⟨w.heap.size, 3, none⟩ = some (.string r.lang) := by rw [← hW]; simp
  have y3 : W.cell? ⟨w.heap.size + 1, 3, none⟩ = some (.string r.lang) := by rw [← hW]; simp
  go_enter Tryz.func37, Tryz.ntmps37
  go_wp2_with (go_at_call 71; refine (r08_SameFields_c r.fields a b c d _ (hx.below hB) (hy.below hB)).mono ?_; rintro e w1 ⟨rfl, hb1⟩)
  go_ret
  exact ⟨rfl, Tx.step hB hb1⟩

set_option maxHeartbeats 1600000 in
theorem r08_SameRecords_c (rs : List Rc.Rd) (a b : Option Addr) (c d : Nat) (w : World) (hx : Rc.RdA w a c rs) (hy : Rc.RdA w b d rs) :
    Calls Tryz.prog 14 #[.slice a rs.length c, .slice b rs.length d] w fun e w' => e = .returned (.bool true) ∧ Below w.heap.size w w' := by
  have hmx : maxLen = 9223372036854775807 := rfl
  have hcx := hx.cap
  have hcy := hy.cap
  have hmx1 := hx.max
  have hmy1 := hy.max
  go_enter Tryz.func14, Tryz.ntmps14
  go_wp2
  go_loopw [5] (fun i wr => ∃ k : Nat, k ≤ rs.length ∧ i = .int .i64 k ∧ Below w.heap.size w wr) (fun i _ => rs.length - (intOf i).toNat)
  case atStart => exact ⟨0, Nat.zero_le _, rfl, Below.refl _ _⟩
  case round =>
    obtain ⟨k, hk, rfl, hb⟩ := hrel
    by_cases hlt : k < rs.length
    · obtain ⟨r, hr⟩ : ∃ r, rs[k]? = some r := ⟨_, List.getElem?_eq_getElem hlt⟩
      obtain ⟨b1, o1, sa, sc, rfl, _, c0, c1, c2, c3, c4, hs1⟩ := hx.get hr
      obtain ⟨b2, o2, ta, tc, rfl, _, d0, d1, d2, d3, d4, hs2⟩ := hy.get hr
      replace c0 := cell_later hb c0
      replace c1 := cell_later hb c1
      replace c2 := cell_later hb c2
      replace c3 := cell_later hb c3
      replace c4 := cell_later hb c4
      replace d0 := cell_later hb d0
      replace d1 := cell_later hb d1
      replace d2 := cell_later hb d2
      replace d3 := cell_later hb d3
      replace d4 := cell_later hb d4
      have HX := Lib.hid (hs1.below hb)
      have HY := Lib.hid (hs2.below hb)
      clear hr hs1 hs2
      go_wp2
      go_still_tail 8, (by kernel_rfl)
      have hbq : Below wr.heap.size wr wr.drew := (Below.refl _ _).drew
      change wpList _ _ _ _ _ wr.drew
      generalize wr.drew = w6 at hbq ⊢
      go_wp2_with (go_at_call 37; refine (r08_Same_c r sa ta sc tc _ (HX.out.below hbq) (HY.out.below hbq)).mono ?_; rintro e w1 ⟨rfl, hb1⟩)
      go_roundw
      case rel => exact ⟨k + 1, by omega, by go_num, Tx.step (Tx.step hb hbq) hb1⟩
      case measure => simp [intOf]; omega
    · obtain rfl : k = rs.length := by omega
      go_wp2
      go_ret
      exact ⟨rfl, hb⟩
end Go.Proofs.YtlinaeklhkfbcaaGreatDoor

/- Records of moderate size; With: what the calls return. -/
namespace Go.Proofs.YtlinaeklhkfbcaaGreatDoor
open Go.RowKit
set_option maxRecDepth 100000

namespace Rc
def smallRs (rs : List Rd) (n : Int) : Bool := decide ((rs.length : Int) ≤ n ∧ ∀ r ∈ rs, smallR r.fields = true)
theorem smallRs_of {rs : List Rd} {n : Int} (h : smallRs rs n = true) : (rs.length : Int) ≤ n ∧ ∀ r ∈ rs, smallR r.fields = true := of_decide_eq_true h
end Rc

set_option maxHeartbeats 800000 in
theorem SmallRecords_c (rs : List Rc.Rd) (a : Option Addr) (c : Nat) (n : Int) (w : World) (h : Rc.RdA w a c rs) :
    Calls Tryz.prog 13 #[.slice a rs.length c, .int .i64 n] w fun e w' => e = .returned (.bool (Rc.smallRs rs n)) ∧ Below w.heap.size w w' := by
  have hmx : maxLen = 9223372036854775807 := rfl
  have hcap := h.cap
  have hmax := h.max
  by_cases hl : (rs.length : Int) ≤ n
  · go_enter Tryz.func13, Tryz.ntmps13
    go_wp2
    go_loopw [5] (fun i wr => ∃ k : Nat, k ≤ rs.length ∧ i = .int .i64 k ∧ Hid (∀ r ∈ rs.take k, Rc.smallR r.fields = true) ∧ Below w.heap.size w wr) (fun i _ => rs.length - (intOf i).toNat)
    case atStart => exact ⟨0, Nat.zero_le _, rfl, Lib.hid (by simp), Below.refl _ _⟩
    case round =>
      obtain ⟨k, hk, rfl, hI, hb⟩ := hrel
      by_cases hlt : k < rs.length
      · obtain ⟨r, hr⟩ : ∃ r, rs[k]? = some r := ⟨_, List.getElem?_eq_getElem hlt⟩
        obtain ⟨b1, o1, sa, sc, rfl, _, c0, c1, c2, c3, c4, hs1⟩ := h.get hr
        replace c0 := cell_later hb c0
        replace c1 := cell_later hb c1
        replace c2 := cell_later hb c2
        replace c3 := cell_later hb c3
        replace c4 := cell_later hb c4
        have HX := Lib.hid (hs1.below hb)
        cases hq : Rc.smallR r.fields with
        | true =>
          have hI2 : Hid (∀ r ∈ rs.take (k + 1), Rc.smallR r.fields = true) := Lib.hid (Rc.all_take hr hq hI.out)
          have HQ := Lib.hid hq; clear hq hr hs1
          go_wp2_with (go_at_call 17; refine (Small_c r.fields sa sc r.id r.ver r.kind r.lang _ HX.out).mono ?_; rintro e w1 ⟨rfl, hb1⟩; rw [HQ.out])
          go_roundw
          case rel => exact ⟨k + 1, by omega, by go_num, hI2, Tx.step hb hb1⟩
          case measure => simp [intOf]; omega
        | false =>
          have hf : Hid (Rc.smallRs rs n = false) := Lib.hid (decide_eq_false fun h9 => by
            have := h9.2 r (List.mem_of_getElem? hr)
            rw [hq] at this
            cases this)
          have HQ := Lib.hid hq; clear hq hr hs1
          go_wp2_with (go_at_call 17; refine (Small_c r.fields sa sc r.id r.ver r.kind r.lang _ HX.out).mono ?_; rintro e w1 ⟨rfl, hb1⟩; rw [HQ.out])
          go_ret
          exact ⟨Tx.retb hf.out.symm, Tx.step hb hb1⟩
      · obtain rfl : k = rs.length := by omega
        have ht : Hid (Rc.smallRs rs n = true) := Lib.hid (decide_eq_true ⟨hl, by have := hI.out; rwa [List.take_length] at this⟩)
        go_wp2
        go_ret
        exact ⟨Tx.retb ht.out.symm, hb⟩
  · have hf : Hid (Rc.smallRs rs n = false) := Lib.hid (decide_eq_false fun h9 => hl h9.1)
    have hgt : n < (rs.length : Int) := by omega
    clear hl
    go_enter Tryz.func13, Tryz.ntmps13
    go_wp2
    go_ret
    exact ⟨Tx.retb hf.out.symm, Below.refl _ _⟩

set_option maxHeartbeats 800000 in
theorem With_c (r : Rc.Rd) (a b : Option Addr) (c n d : Nat) (w : World) :
    Calls Tryz.prog 40 #[.agg #[.int .i64 r.id, .int .i64 r.ver, .int .i64 r.kind, .string r.lang, .slice a r.fields.length c], .slice b n d] w fun e w' => e = .returned (.agg #[.int .i64 r.id, .int .i64 r.ver, .int .i64 r.kind, .string r.lang, .slice b n d]) ∧ Below w.heap.size w w' := by
  go_enter Tryz.func40, Tryz.ntmps40
  go_wp2
  refine bodyPost_ret (v := .agg #[.int .i64 r.id, .int .i64 r.ver, .int .i64 r.kind, .string r.lang, .slice b n d]) (by simp [results, Tryz.results40, go_sem]) rfl ⟨rfl, ?_⟩
  exact (Tx.newb _ _).alloc (Tx.newb w _).size _
end Go.Proofs.YtlinaeklhkfbcaaGreatDoor

/- The reference's Turn: what the call returns. -/
namespace Go.Proofs.YtlinaeklhkfbcaaGreatDoor
open Go.RowKit
set_option maxRecDepth 100000

namespace Br
theorem FA.grown {α : Type} {enc : α → List Value} {size : Nat} {w w' : World} {row : Option Nat} {a : Option Addr} {c : Nat} {xs : List α} (h : FA enc size w a c xs) (hg : w.grownBy w' row) (hne : ∀ g, a = some g → some g.block ≠ row) : FA enc size w' a c xs := by
  by_cases h0 : xs = []
  · subst h0
    exact ⟨h.cap, h.max, 0, 0, fun h9 => absurd rfl h9, fun j i x u hx => by simp at hx⟩
  · obtain ⟨b, o, h1, h2⟩ := h.at_
    obtain ⟨ha, hb⟩ := h1 h0
    refine ⟨h.cap, h.max, b, o, fun _ => ⟨ha, Nat.lt_of_lt_of_le hb hg.size⟩, fun j i x u hx hu => ?_⟩
    exact (hg.cell_far ⟨b, o + j * size + i, Option.none⟩ hb (by have := hne _ ha; exact this)).trans (h2 j i x u hx hu)
end Br
namespace Rc
/-- A record whose fields lie in a block of the call's own, apart from one block; their subfields lie where they lay. -/
def NF (w0 w : World) (own : Option Nat) (t : RT) : Prop := ∃ S : List FT, S.map (·.1) = t.1.fields ∧ Br.FA encF 4 w t.2.1 t.2.2 S ∧ (∀ s ∈ S, SubA w0 s.2.1 s.2.2 s.1.subs) ∧ (∀ g, t.2.1 = some g → g.block < w.heap.size ∧ some g.block ≠ own)
theorem NF.below {w0 w w' : World} {own : Option Nat} {t : RT} (h : NF w0 w own t) (hb : Below w.heap.size w w') : NF w0 w' own t := by
  obtain ⟨S, h1, h2, h3, h4⟩ := h
  exact ⟨S, h1, h2.below hb, h3, fun g hg => ⟨Nat.lt_of_lt_of_le (h4 g hg).1 hb.size, (h4 g hg).2⟩⟩
/-- Behind an append to the block: apart from the new one too. -/
theorem NF.appended {w0 w w' : World} {own own' : Option Nat} {t : RT} (h : NF w0 w own t) (hg : w.grownBy w' own) (ho : own' = own ∨ own' = some w.heap.size) : NF w0 w' own' t := by
  obtain ⟨S, h1, h2, h3, h4⟩ := h
  refine ⟨S, h1, h2.grown hg (fun g e => (h4 g e).2), h3, fun g e => ⟨Nat.lt_of_lt_of_le (h4 g e).1 hg.size, ?_⟩⟩
  rcases ho with rfl | rfl
  · exact (h4 g e).2
  · intro e9
    injection e9 with e9
    have := (h4 g e).1
    omega
theorem NF.fld {w0 w : World} {own : Option Nat} {t : RT} (h : NF w0 w own t) (hb : Below w0.heap.size w0 w) : FldA w t.2.1 t.2.2 t.1.fields := by
  obtain ⟨S, h1, h2, h3, _⟩ := h
  rw [← h1]
  exact FldA.of_fa h2 fun s hs => (h3 s hs).below hb
end Rc
namespace Ct
def turnF' (a b : Int) (f : Rc.Fl) : Rc.Fl := if a < 1 then f else turnF a b f
def turnR' (a b : Int) (r : Rc.Rd) : Rc.Rd := { r with fields := r.fields.map (turnF' a b) }
theorem turn_eq (a b : Int) (l : List Rc.Rd) : l.map (turnR' a b) = turn a b l := by
  unfold turn
  by_cases h : a < 1
  · rw [if_pos h]
    have e1 : turnF' a b = id := by
      funext f
      unfold turnF'
      rw [if_pos h]
      rfl
    have e2 : turnR' a b = id := by
      funext r
      unfold turnR'
      rw [e1, List.map_id]
      rfl
    rw [e2, List.map_id]
  · rw [if_neg h]
    have e1 : turnF' a b = turnF a b := by
      funext f
      unfold turnF'
      rw [if_neg h]
    have e2 : turnR' a b = turnR a b := by
      funext r
      unfold turnR' turnR
      rw [e1]
    rw [e2]
theorem turnF'_no1 {a b : Int} (f : Rc.Fl) (h : a ≤ 0) : turnF' a b f = f := by unfold turnF'; rw [if_pos (by omega)]
theorem turnF'_no2 {a b : Int} (f : Rc.Fl) (h : ¬ a = f.auth) : turnF' a b f = f := by
  unfold turnF' turnF
  split
  · rfl
  · rw [if_neg (fun e => h e.symm)]
theorem turnF'_yes {a b : Int} (f : Rc.Fl) (h0 : 0 < a) (h : a = f.auth) : turnF' a b f = { f with auth := b } := by
  unfold turnF' turnF
  rw [if_neg (by omega), if_pos h.symm]
theorem map_take {α β : Type} (g : α → β) {l : List α} {k : Nat} {x : α} (h : l[k]? = some x) : (l.take (k + 1)).map g = (l.take k).map g ++ [g x] := by
  rw [List.take_add_one, h, List.map_append]
  rfl
end Ct

set_option maxHeartbeats 3200000 in
theorem r14_Turn_c (rs : List Rc.Rd) (a : Option Addr) (c : Nat) (fr tt : Int) (w : World) (h : Rc.RdA w a c rs) (hn : rs.length ≤ 1000) (hfn : ∀ r ∈ rs, r.fields.length ≤ 1000) :
    Calls Tryz.prog 16 #[.slice a rs.length c, .int .i64 fr, .int .i64 tt] w fun e w' => ∃ va vc, e = .returned (.slice va (Ct.turn fr tt rs).length vc) ∧ Rc.RdA w' va vc (Ct.turn fr tt rs) ∧ Below w.heap.size w w' := by
  rw [← Ct.turn_eq]
  obtain ⟨i0, hi0, hz0, hz1, hz2⟩ := info_parts info_fld
  obtain ⟨i1, hi1, hy0, hy1, hy2⟩ := info_parts info_rec
  have hcap := h.cap
  have hmx : maxLen = 9223372036854775807 := rfl
  have hmax := h.max
  have HFN := Lib.hid hfn; clear hfn
  go_enter Tryz.func16, Tryz.ntmps16
  go_wp2
  go_loopw [7, 8, 9, 10, 11] (fun v i _ _ _ wr => ∃ (k : Nat) (T : List Rc.RT), k ≤ rs.length ∧ i = .int .i64 k ∧ Hid (T.map (·.1) = (rs.take k).map (Ct.turnR' fr tt)) ∧ Hid (∀ t ∈ T, Rc.NF w wr v.ownBlock t) ∧ T.length = k ∧ wr.ownsRow w.heap.size 38 5 v T.length (T.flatMap Rc.encR) ∧ Below w.heap.size w wr) (fun _ i _ _ _ _ => rs.length - (intOf i).toNat)
  case atStart => exact ⟨0, [], Nat.zero_le _, rfl, Lib.hid rfl, Lib.hid (by simp), rfl, World.ownsRow_lit (base := w.heap.size) (e := 38) (size := 5) w #[] 0 (by simp) (by unfold maxLen; omega) rfl, Tx.newb _ _⟩
  case round =>
    obtain ⟨k, T, hk, rfl, hT, hTF, hTk, hown, hb⟩ := hrel
    generalize wr = wo at *
    have hbs := hb.size
    by_cases hlt : k < rs.length
    · obtain ⟨r, hr⟩ : ∃ r, rs[k]? = some r := ⟨_, List.getElem?_eq_getElem hlt⟩
      obtain ⟨b, o, fa, fc, rfl, hbl, c0, c1, c2, c3, c4, hF⟩ := h.get hr
      have hfl := HFN.out r (List.mem_of_getElem? hr)
      have hfcap := hF.cap
      have hfmax := hF.max
      replace c0 := cell_later hb c0
      replace c1 := cell_later hb c1
      replace c2 := cell_later hb c2
      replace c3 := cell_later hb c3
      replace c4 := cell_later hb c4
      have HR := Lib.hid hr; clear hr
      go_wp2
      go_loopw [9, 10, 11] (fun v i _ wx => ∃ (j : Nat) (S : List Rc.FT), j ≤ r.fields.length ∧ i = .int .i64 j ∧ Hid (S.map (·.1) = (r.fields.take j).map (Ct.turnF' fr tt)) ∧ Hid (∀ t ∈ S, Rc.SubA w t.2.1 t.2.2 t.1.subs) ∧ S.length = j ∧ wx.ownsRow wo.heap.size 24 4 v S.length (S.flatMap Rc.encF) ∧ Below wo.heap.size wo wx) (fun _ i _ _ => r.fields.length - (intOf i).toNat)
      case atStart => exact ⟨0, [], Nat.zero_le _, rfl, Lib.hid rfl, Lib.hid (by simp), rfl, World.ownsRow_lit (base := wo.heap.size) (e := 24) (size := 4) wo #[] 0 (by simp) (by unfold maxLen; omega) rfl, Tx.newb _ _⟩
      case round =>
        obtain ⟨j, S, hj, rfl, hS, hSS, hSj, hown1, hb1⟩ := hrel
        have hb1s := hb1.size
        have c0' := cell_later hb1 c0
        have c1' := cell_later hb1 c1
        have c2' := cell_later hb1 c2
        have c3' := cell_later hb1 c3
        have c4' := cell_later hb1 c4
        by_cases hlt1 : j < r.fields.length
        · obtain ⟨f, hf⟩ : ∃ f, r.fields[j]? = some f := ⟨_, List.getElem?_eq_getElem hlt1⟩
          obtain ⟨b1, o1, sa, sc, rfl, hbl1, d0, d1, d2, d3, hsub⟩ := hF.get hf
          have hbx := Tx.step hb hb1
          replace d0 := cell_later hbx d0
          replace d1 := cell_later hbx d1
          replace d2 := cell_later hbx d2
          replace d3 := cell_later hbx d3
          have hmt := Ct.map_take (Ct.turnF' fr tt) hf
          rw [← hS.out] at hmt
          rcases (show fr ≤ 0 ∨ (0 < fr ∧ ¬ fr = f.auth) ∨ (0 < fr ∧ fr = f.auth) by omega) with g0 | ⟨g0, g1⟩ | ⟨g0, g1⟩
          · rw [Ct.turnF'_no1 f g0] at hmt
            have HS := Lib.hid hmt; clear hmt hf
            have hSS2 : Hid (∀ t ∈ S ++ [(f, sa, sc)], Rc.SubA w t.2.1 t.2.2 t.1.subs) := Lib.hid (fun t ht => by
              rcases List.mem_append.1 ht with h9 | h9
              · exact hSS.out t h9
              · simp at h9; subst h9; exact hsub)
            go_wp2_with (at_builtin; go_must (refine wpList_append_own _ rfl _ _ 36 rfl wo.heap.size 24 i0 _ 4 64 Tryz.underlying36 hi0 hz0 hz1 hz2 rfl (by decide) _ S.length _ rfl ((hown1.alloc _).alloc _) ⟨_, 0, none⟩ 1 1 (Rc.encF (f, sa, sc)) rfl rfl (Rc.f_new _ _ (by first | rfl | simp) f sa sc _) (Rc.f_one _) (by unfold maxLen; omega) (by omega) (by simp; omega) ?_); intro v' w2 hown2 hg2 hnil)
            have hb2 : Below wo.heap.size wo w2 := ((hb1.alloc hb1s _).alloc (by simp; omega) _).grown hg2 (by simp; omega) (fun q hq => (hown1.lt q hq).1)
            go_roundw
            case rel => exact ⟨j + 1, S ++ [(f, sa, sc)], by omega, by go_num, Lib.hid (by rw [List.map_append]; exact HS.out.symm), hSS2, by simp; omega, by simpa using hown2, hb2⟩
            case measure => simp [intOf]; omega
          · rw [Ct.turnF'_no2 f g1] at hmt
            have g2 : (fr == f.auth) = false := beq_eq_false_iff_ne.2 g1
            have HS := Lib.hid hmt; clear hmt hf
            have hSS2 : Hid (∀ t ∈ S ++ [(f, sa, sc)], Rc.SubA w t.2.1 t.2.2 t.1.subs) := Lib.hid (fun t ht => by
              rcases List.mem_append.1 ht with h9 | h9
              · exact hSS.out t h9
              · simp at h9; subst h9; exact hsub)
            go_wp2_with (at_builtin; go_must (refine wpList_append_own _ rfl _ _ 36 rfl wo.heap.size 24 i0 _ 4 64 Tryz.underlying36 hi0 hz0 hz1 hz2 rfl (by decide) _ S.length _ rfl ((hown1.alloc _).alloc _) ⟨_, 0, none⟩ 1 1 (Rc.encF (f, sa, sc)) rfl rfl (Rc.f_new _ _ (by first | rfl | simp) f sa sc _) (Rc.f_one _) (by unfold maxLen; omega) (by omega) (by simp; omega) ?_); intro v' w2 hown2 hg2 hnil)
            have hb2 : Below wo.heap.size wo w2 := ((hb1.alloc hb1s _).alloc (by simp; omega) _).grown hg2 (by simp; omega) (fun q hq => (hown1.lt q hq).1)
            go_roundw
            case rel => exact ⟨j + 1, S ++ [(f, sa, sc)], by omega, by go_num, Lib.hid (by rw [List.map_append]; exact HS.out.symm), hSS2, by simp; omega, by simpa using hown2, hb2⟩
            case measure => simp [intOf]; omega
          · rw [Ct.turnF'_yes f g0 g1] at hmt
            rw [← g1] at d3
            clear g1
            have HS := Lib.hid hmt; clear hmt hf
            have hSS2 : Hid (∀ t ∈ S ++ [({ f with auth := tt }, sa, sc)], Rc.SubA w t.2.1 t.2.2 t.1.subs) := Lib.hid (fun t ht => by
              rcases List.mem_append.1 ht with h9 | h9
              · exact hSS.out t h9
              · simp at h9; subst h9; exact hsub)
            go_wp2_with (at_builtin; go_must (refine wpList_append_own _ rfl _ _ 36 rfl wo.heap.size 24 i0 _ 4 64 Tryz.underlying36 hi0 hz0 hz1 hz2 rfl (by decide) _ S.length _ rfl ((hown1.alloc _).alloc _) ⟨_, 0, none⟩ 1 1 (Rc.encF ({ f with auth := tt }, sa, sc)) rfl rfl (Rc.f_new _ _ (by first | rfl | simp) { f with auth := tt } sa sc _) (Rc.f_one _) (by unfold maxLen; omega) (by omega) (by simp; omega) ?_); intro v' w2 hown2 hg2 hnil)
            have hb2 : Below wo.heap.size wo w2 := ((hb1.alloc hb1s _).alloc (by simp; omega) _).grown hg2 (by simp; omega) (fun q hq => (hown1.lt q hq).1)
            go_roundw
            case rel => exact ⟨j + 1, S ++ [({ f with auth := tt }, sa, sc)], by omega, by go_num, Lib.hid (by rw [List.map_append]; exact HS.out.symm), hSS2, by simp; omega, by simpa using hown2, hb2⟩
            case measure => simp [intOf]; omega
        · obtain rfl : j = r.fields.length := by omega
          have hS9 := hS.out
          rw [List.take_length] at hS9
          obtain ⟨va, vc, rfl, hF2, hvg⟩ := Br.FA.of_own Rc.encF_len hown1 rfl
          have hSl : S.length = r.fields.length := hSj
          rw [hSl]
          clear hS
          have hS9 := Lib.hid hS9
          have hbx := Tx.step hb hb1
          have hbxs := hbx.size
          have hmt := Ct.map_take (Ct.turnR' fr tt) HR.out
          rw [← hT.out] at hmt
          have HT := Lib.hid hmt; clear hmt
          have HF2 := Lib.hid hF2; clear hF2
          have hownx := own_below hown hb1
          go_wp2_with (first
            | (go_at_call 40; refine (With_c r fa va fc _ vc _).mono ?_; rintro e w1 ⟨rfl, hb2⟩; have hown2 := own_below hownx hb2; have hb3 := Tx.step hbx hb2; have hb3s := hb3.size)
            | (at_builtin; go_must (refine wpList_append_sl rfl _ _ 31 rfl w.heap.size 38 i1 _ 5 64 Tryz.underlying31 hi1 hy0 hy1 hy2 rfl (by decide) _ T.length _ rfl (hown2.alloc _) (some ⟨_, 0, none⟩) 1 1 [.int .i64 r.id, .int .i64 r.ver, .int .i64 r.kind, .string r.lang, .slice va r.fields.length vc] rfl rfl (fun h9 => by cases h9) (fun ad had => by cases had; exact Br.cells_new_at _ _ (by first | rfl | simp) _ _) (by simp [Value.oneCell']) (by unfold maxLen; omega) (by omega) (by simp; omega) ?_); intro v' w2 hown3 hg2 hvb))
          have hb4 : Below w.heap.size w w2 := (hb3.alloc hb3s _).grown hg2 (by simp; omega) (fun q hq => (hown2.lt q hq).1)
          have hE : Rc.encR (Ct.turnR' fr tt r, va, vc) = [.int .i64 r.id, .int .i64 r.ver, .int .i64 r.kind, .string r.lang, .slice va r.fields.length vc] := by simp [Rc.encR, Ct.turnR']
          rw [← hE] at hown3
          have hown3' : w2.ownsRow w.heap.size 38 5 v' (T ++ [(Ct.turnR' fr tt r, va, vc)]).length ((T ++ [(Ct.turnR' fr tt r, va, vc)]).flatMap Rc.encR) := by simpa using hown3
          have hHF : Hid (∀ t ∈ T ++ [(Ct.turnR' fr tt r, va, vc)], Rc.NF w w2 v'.ownBlock t) := Lib.hid (fun t ht => by
            refine Rc.NF.appended ?_ hg2 hvb
            rcases List.mem_append.1 ht with h9 | h9
            · exact (hTF.out t h9).below ((Tx.step hb1 hb2).alloc (Tx.step hb1 hb2).size _)
            · simp at h9
              subst h9
              refine Rc.NF.below (w := wr) ?_ (hb2.alloc hb2.size _)
              refine ⟨S, hS9.out, HF2.out, hSS.out, fun g hg => ?_⟩
              have h8 := hown1.lt g.block (by show (Value.slice va S.length vc).ownBlock = some g.block; rw [show va = some g from hg]; rfl)
              refine ⟨h8.2, fun e9 => ?_⟩
              have h7 := hown.lt g.block e9.symm
              omega)
          go_roundw
          case rel => exact ⟨k + 1, T ++ [(Ct.turnR' fr tt r, va, vc)], by omega, by go_num, Lib.hid (by rw [List.map_append]; exact HT.out.symm), hHF, by simp; omega, hown3', hb4⟩
          case measure => simp [intOf]; omega
    · obtain rfl : k = rs.length := by omega
      have hT9 := hT.out
      rw [List.take_length] at hT9
      obtain ⟨va, vc, rfl, hF⟩ := Rc.RdA.of_own hown rfl (fun t ht => (hTF.out t ht).fld hb)
      rw [hT9] at hF ⊢
      clear hT hT9 hTF
      go_wp2
      go_ret
      exact ⟨va, vc, rfl, hF, hb⟩
end Go.Proofs.YtlinaeklhkfbcaaGreatDoor

/- The program's Turn: what the call returns. -/
namespace Go.Proofs.YtlinaeklhkfbcaaGreatDoor
open Go.RowKit
set_option maxRecDepth 100000

namespace Br
theorem flat_set {α : Type} (enc : α → List Value) (size : Nat) (hs : ∀ x, (enc x).length = size) : ∀ (xs : List α) (k i : Nat) (x x' : α) (u : Value), xs[k]? = some x → i < size → enc x' = (enc x).set i u → (xs.flatMap enc).set (k * size + i) u = (xs.set k x').flatMap enc
  | [], k, i, x, x', u, h, _, _ => by simp at h
  | y :: r, 0, i, x, x', u, h, hi, he => by
    simp at h
    subst h
    rw [Nat.zero_mul, Nat.zero_add, List.flatMap_cons, List.set_append_left _ _ (by rw [hs]; exact hi), List.set_cons_zero, List.flatMap_cons, he]
  | y :: r, k + 1, i, x, x', u, h, hi, he => by
    rw [List.flatMap_cons, List.set_append_right _ _ (by rw [hs, Nat.succ_mul]; omega), hs, show (k + 1) * size + i - size = k * size + i by rw [Nat.succ_mul]; omega, flat_set enc size hs r k i x x' u (by simpa using h) hi he, List.set_cons_succ, List.flatMap_cons]
theorem FA.far {α : Type} {enc : α → List Value} {size B : Nat} {w w' : World} {a : Option Addr} {c : Nat} {xs : List α} (h : FA enc size w a c xs) (hb : Below B w w') (hlt : ∀ g, a = some g → g.block < B) (hs : w.heap.size ≤ w'.heap.size) : FA enc size w' a c xs := by
  by_cases h0 : xs = []
  · subst h0
    exact ⟨h.cap, h.max, 0, 0, fun h9 => absurd rfl h9, fun j i x u hx => by simp at hx⟩
  · obtain ⟨b, o, h1, h2⟩ := h.at_
    obtain ⟨ha, hlb⟩ := h1 h0
    have hB := hlt _ ha
    refine ⟨h.cap, h.max, b, o, fun _ => ⟨ha, Nat.lt_of_lt_of_le hlb hs⟩, fun j i x u hx hu => ?_⟩
    have e : w'.cell? ⟨b, o + j * size + i, Option.none⟩ = w.cell? ⟨b, o + j * size + i, Option.none⟩ := hb.cell (p := ⟨b, o + j * size + i, Option.none⟩) hB
    rw [e]
    exact h2 j i x u hx hu
theorem own_far {w w' : World} {B B' e size n : Nat} {v : Value} {xs : List Value} (h : w.ownsRow B e size v n xs) (hb : Below B' w w') (hlt : ∀ g, v.ownBlock = some g → g < B') : w'.ownsRow B e size v n xs := by
  refine ⟨h.1, ?_⟩
  rcases h.2 with h1 | ⟨g, cap, cur, rfl, h2, h3, h4⟩
  · exact .inl h1
  · exact .inr ⟨g, cap, cur, rfl, h2, (hb.block g (hlt g rfl)).trans h3, h4⟩
end Br

set_option maxHeartbeats 3200000 in
theorem control_Turn_c (rs : List Rc.Rd) (a : Option Addr) (c : Nat) (fr tt : Int) (w : World) (h : Rc.RdA w a c rs) (hn : rs.length ≤ 1000) (hfn : ∀ r ∈ rs, r.fields.length ≤ 1000) :
    Calls Tryz.prog 15 #[.slice a rs.length c, .int .i64 fr, .int .i64 tt] w fun e w' => ∃ va vc, e = .returned (.slice va (Ct.turn fr tt rs).length vc) ∧ Rc.RdA w' va vc (Ct.turn fr tt rs) ∧ Below w.heap.size w w' := by
  have hmx : maxLen = 9223372036854775807 := rfl
  have hmax := h.max
  obtain ⟨T0, hT0, hFA, hTF⟩ := h.fa
  have hTl : T0.length = rs.length := by rw [← hT0, List.length_map]
  have HFN := Lib.hid hfn; clear hfn
  by_cases hf1 : fr < 1
  · have ht : Ct.turn fr tt rs = rs := by unfold Ct.turn; rw [if_pos hf1]
    rw [ht]
    clear ht
    go_enter Tryz.func15, Tryz.ntmps15
    go_wp2_with (go_at_call 38; rw [← hTl]; refine (CloneRec_c Rc.encR_len Rc.r_one T0 a c _ hFA (by omega)).mono ?_; rintro e w1 ⟨v, rfl, hown, hb1⟩)
    go_ret
    obtain ⟨va, vc, rfl, hR⟩ := Rc.RdA.of_own hown rfl (fun t ht => (hTF t ht).below hb1)
    rw [hT0] at hR ⊢
    exact ⟨va, vc, rfl, hR, hb1⟩
  · have hf2 : 1 ≤ fr := by omega
    have ht : Ct.turn fr tt rs = rs.map (Ct.turnR fr tt) := by unfold Ct.turn; rw [if_neg hf1]
    rw [ht]
    clear ht hf1
    have HT0 := Lib.hid hT0
    have HTF := Lib.hid hTF
    clear hT0 hTF
    go_enter Tryz.func15, Tryz.ntmps15
    go_wp2_with (go_at_call 38; rw [← hTl]; refine (CloneRec_c Rc.encR_len Rc.r_one T0 a c _ hFA (by omega)).mono ?_; rintro e w1 ⟨v, rfl, hown, hb1⟩; obtain ⟨va, vc, rfl, hFv, _⟩ := Br.FA.of_own Rc.encR_len hown rfl; have hvcap := hFv.cap; have hvmax := hFv.max)
    rw [hTl] at hvcap
    go_loopw [17] (fun i wr => ∃ (k : Nat) (T : List Rc.RT), k ≤ rs.length ∧ i = .int .i64 k ∧ T.length = rs.length ∧ Hid ((T.take k).map (·.1) = (rs.take k).map (Ct.turnR fr tt)) ∧ Hid (T.drop k = T0.drop k) ∧ Hid (∀ t ∈ T.take k, Rc.NF w wr (Value.slice va rs.length vc).ownBlock t) ∧ wr.ownsRow w.heap.size 38 5 (.slice va rs.length vc) rs.length (T.flatMap Rc.encR) ∧ Below w.heap.size w wr) (fun i _ => rs.length - (intOf i).toNat)
    case atStart => exact ⟨0, T0, Nat.zero_le _, rfl, hTl, Lib.hid rfl, Lib.hid rfl, Lib.hid (by simp), by rw [← hTl]; exact hown, hb1⟩
    case round =>
      obtain ⟨k, T, hk, rfl, hTl2, hTt, hTd, hTN, hown2, hb⟩ := hrel
      generalize wr = wo at *
      have hbs := hb.size
      by_cases hlt : k < rs.length
      · obtain ⟨t, ht⟩ : ∃ t, T[k]? = some t := ⟨_, List.getElem?_eq_getElem (by omega)⟩
        have ht0 : T0[k]? = some t := by
          have e1 : (T.drop k)[0]? = (T0.drop k)[0]? := by rw [hTd.out]
          rw [List.getElem?_drop, List.getElem?_drop, Nat.add_zero] at e1
          rw [← e1]; exact ht
        have hr : rs[k]? = some t.1 := by
          have e1 : (T0.map (·.1))[k]? = some t.1 := by rw [List.getElem?_map, ht0]; rfl
          rw [← e1, HT0.out]
        have hfl := HFN.out t.1 (List.mem_of_getElem? hr)
        have hF := HTF.out t (List.mem_of_getElem? ht0)
        obtain ⟨g, rfl⟩ : ∃ g, va = some ⟨g, 0, none⟩ := by
          rcases hown2.2 with ⟨_, h7⟩ | ⟨g, _, _, h7, _⟩
          · omega
          · injection h7 with h7
            exact ⟨g, h7⟩
        obtain ⟨S0, hS0, hFS0, hSS⟩ := hF.fa
        have hFS := hFS0.below hb
        have c4 : wo.cell? ⟨g, k * 5 + 4, none⟩ = some (.slice t.2.1 t.1.fields.length t.2.2) := by
          rw [hown2.cellAt (k * 5 + 4) (by omega), Br.flat_at Rc.encR 5 Rc.encR_len T k 4 t ht (by omega)]
          rfl
        have hSl : S0.length = t.1.fields.length := by rw [← hS0, List.length_map]
        go_upto_region 8 with (go_at_call 39; rw [← hSl]; refine (CloneFld_c Rc.encF_len Rc.f_one S0 t.2.1 t.2.2 _ hFS (by omega)).mono ?_; rintro e w3 ⟨v2, rfl, hown3, hb3⟩; obtain ⟨fa, fc, rfl, hFf, _⟩ := Br.FA.of_own Rc.encF_len hown3 rfl; have hown4 := own_below hown2 hb3; have hz4 := hown4.frozenAt (k * 5 + 4); have c4b := cell_later hb3 c4)
        have HSL := Lib.hid hSl
        rw [hSl] at hown3
        clear hSl
        obtain ⟨hown5, hg5⟩ := hown4.stored (k * 5 + 4) (.slice fa t.1.fields.length fc)
        rw [Br.flat_set Rc.encR 5 Rc.encR_len T k 4 t (Ct.turnR fr tt t.1, fa, fc) _ ht (by omega) (by simp [Rc.encR, Ct.turnR])] at hown5
        have hgl := hown2.lt g rfl
        have h3s := hb3.size
        have hb5 : Below w.heap.size w (w3.setCell ⟨g, k * 5 + 4, none⟩ (.slice fa t.1.fields.length fc)) := (Tx.step hb hb3).grown hg5 (by omega) (fun q hq => by cases hq; exact hgl.1)
        have hfa : ∀ q, (Value.slice fa t.1.fields.length fc).ownBlock = some q → wo.heap.size ≤ q := fun q hq => (hown3.lt q hq).1
        have hown6 := hown3.kept hg5 (.inr (fun e => by have := hfa g e; omega))
        have c5 : (w3.setCell ⟨g, k * 5 + 4, none⟩ (.slice fa t.1.fields.length fc)).cell? ⟨g, k * 5 + 4, none⟩ = some (.slice fa t.1.fields.length fc) := by
          rw [hown5.cellAt (k * 5 + 4) (by omega), Br.flat_at Rc.encR 5 Rc.encR_len (T.set k (Ct.turnR fr tt t.1, fa, fc)) k 4 (Ct.turnR fr tt t.1, fa, fc) (by rw [List.getElem?_set_self (by omega)]) (by omega)]
          simp [Rc.encR, Ct.turnR]
        have hb35 : Below wo.heap.size wo (w3.setCell ⟨g, k * 5 + 4, none⟩ (.slice fa t.1.fields.length fc)) → True := fun _ => trivial
        clear hb35
        generalize w3.setCell ⟨g, k * 5 + 4, none⟩ (.slice fa t.1.fields.length fc) = w5 at hown5 hg5 hb5 hown6 c5 ⊢
        go_wp2
        go_loopw [36] (fun i wx => ∃ (j : Nat) (S : List Rc.FT), j ≤ t.1.fields.length ∧ i = .int .i64 j ∧ S.length = t.1.fields.length ∧ Hid ((S.take j).map (·.1) = (t.1.fields.take j).map (Ct.turnF fr tt)) ∧ Hid (S.drop j = S0.drop j) ∧ Hid (∀ s ∈ S, Rc.SubA w s.2.1 s.2.2 s.1.subs) ∧ wx.ownsRow wo.heap.size 24 4 (.slice fa t.1.fields.length fc) t.1.fields.length (S.flatMap Rc.encF) ∧ Below wo.heap.size w5 wx) (fun i _ => t.1.fields.length - (intOf i).toNat)
        case atStart => exact ⟨0, S0, Nat.zero_le _, rfl, HSL.out, Lib.hid rfl, Lib.hid rfl, Lib.hid hSS, hown6, Below.refl _ _⟩
        case round =>
          obtain ⟨j, S, hj, rfl, hSl2, hSt, hSd, hSS2, hown7, hb7⟩ := hrel
          have c6 := (hb7.cell (p := ⟨g, k * 5 + 4, none⟩) hgl.2).trans c5
          by_cases hlt1 : j < t.1.fields.length
          · obtain ⟨s, hs⟩ : ∃ s, S[j]? = some s := ⟨_, List.getElem?_eq_getElem (by omega)⟩
            have hs0 : S0[j]? = some s := by
              have e1 : (S.drop j)[0]? = (S0.drop j)[0]? := by rw [hSd.out]
              rw [List.getElem?_drop, List.getElem?_drop, Nat.add_zero] at e1
              rw [← e1]; exact hs
            have hfj : t.1.fields[j]? = some s.1 := by
              have e1 : (S0.map (·.1))[j]? = some s.1 := by rw [List.getElem?_map, hs0]; rfl
              rw [← e1, hS0]
            obtain ⟨fb, rfl⟩ : ∃ fb, fa = some ⟨fb, 0, none⟩ := by
              rcases hown7.2 with ⟨_, h7⟩ | ⟨fb, _, _, h7, _⟩
              · omega
              · injection h7 with h7
                exact ⟨fb, h7⟩
            have d3 : wr.cell? ⟨fb, j * 4 + 3, none⟩ = some (.int .i64 s.1.auth) := by
              rw [hown7.cellAt (j * 4 + 3) (by omega), Br.flat_at Rc.encF 4 Rc.encF_len S j 3 s hs (by omega)]
              rfl
            have hz7 := hown7.frozenAt (j * 4 + 3)
            have hmt := Ct.map_take (Ct.turnF fr tt) hfj
            rw [← hSt.out] at hmt
            by_cases he : s.1.auth = fr
            · obtain ⟨hown8, hg8⟩ := hown7.stored (j * 4 + 3) (.int .i64 tt)
              have hst : Ct.turnF fr tt s.1 = { s.1 with auth := tt } := by unfold Ct.turnF; rw [if_pos he]
              rw [hst] at hmt
              rw [Br.flat_set Rc.encF 4 Rc.encF_len S j 3 s ({ s.1 with auth := tt }, s.2) _ hs (by omega) rfl] at hown8
              have HS : Hid (((S.set j ({ s.1 with auth := tt }, s.2)).take (j + 1)).map (·.1) = (t.1.fields.take (j + 1)).map (Ct.turnF fr tt)) := Lib.hid (by
                rw [hmt, List.take_add_one, List.getElem?_set_self (by omega), List.take_set_of_le (Nat.le_refl _), List.map_append]
                rfl)
              have HD : Hid ((S.set j ({ s.1 with auth := tt }, s.2)).drop (j + 1) = S0.drop (j + 1)) := Lib.hid (by rw [List.drop_set_of_lt (show j < j + 1 by omega), ← List.drop_drop, ← List.drop_drop, hSd.out])
              have HSS : Hid (∀ x ∈ S.set j ({ s.1 with auth := tt }, s.2), Rc.SubA w x.2.1 x.2.2 x.1.subs) := Lib.hid (fun x hx => by
                rcases List.mem_or_eq_of_mem_set hx with h9 | h9
                · exact hSS2.out x h9
                · subst h9
                  exact hSS2.out s (List.mem_of_getElem? hs))
              have hfbl := (hown7.lt fb rfl).1
              have hb8 : Below wo.heap.size w5 (wr.setCell ⟨fb, j * 4 + 3, none⟩ (.int .i64 tt)) := hb7.setCell hfbl _
              rw [he] at d3
              clear hst hmt hs hs0 hfj he
              go_wp2
              go_roundw
              case rel => exact ⟨j + 1, S.set j ({ s.1 with auth := tt }, s.2), by omega, by go_num, by simpa using hSl2, HS, HD, HSS, hown8, hb8⟩
              case measure => simp [intOf]; omega
            · have h9 : (s.1.auth == fr) = false := beq_eq_false_iff_ne.2 he
              have hst : Ct.turnF fr tt s.1 = s.1 := by unfold Ct.turnF; rw [if_neg he]
              rw [hst] at hmt
              have HS : Hid ((S.take (j + 1)).map (·.1) = (t.1.fields.take (j + 1)).map (Ct.turnF fr tt)) := Lib.hid (by rw [hmt, List.take_add_one, hs, List.map_append]; rfl)
              have HD : Hid (S.drop (j + 1) = S0.drop (j + 1)) := Lib.hid (by rw [← List.drop_drop, ← List.drop_drop, hSd.out])
              clear hst hmt hs hs0 hfj he
              go_wp2
              go_roundw
              case rel => exact ⟨j + 1, S, by omega, by go_num, hSl2, HS, HD, hSS2, hown7, hb7⟩
              case measure => simp [intOf]; omega
          · obtain rfl : j = t.1.fields.length := by omega
            have hS9 := hSt.out
            rw [List.take_length, List.take_of_length_le (by omega)] at hS9
            have HS9 := Lib.hid hS9; clear hS9 hSt hSd
            have hb57 : Below w.heap.size w wr := by
              refine ⟨hb7.os.trans hb5.os, hb7.tape.trans hb5.tape, hb7.output.trans hb5.output, by have := hb5.size; have := hb7.size; omega, fun q hq => (hb7.block q (by omega)).trans (hb5.block q hq)⟩
            have hown9 := Br.own_far hown5 hb7 (fun q hq => by cases hq; exact hgl.2)
            have hg5s := hg5.size
            have hb7s := hb7.size
            have hNF : Hid (∀ x ∈ (T.set k (Ct.turnR fr tt t.1, fa, fc)).take (k + 1), Rc.NF w wr (Value.slice (some ⟨g, 0, none⟩) rs.length vc).ownBlock x) := Lib.hid (fun x hx => by
              rw [List.take_add_one, List.getElem?_set_self (by omega), List.take_set_of_le (Nat.le_refl _)] at hx
              rcases List.mem_append.1 hx with h9 | h9
              · obtain ⟨Sx, a1, a2, a3, a4⟩ := hTN.out x h9
                exact ⟨Sx, a1, ((a2.below hb3).grown hg5 (fun q hq => (a4 q hq).2)).far hb7 (fun q hq => (a4 q hq).1) hb7s, a3, fun q hq => ⟨by have := (a4 q hq).1; omega, (a4 q hq).2⟩⟩
              · simp at h9
                subst h9
                obtain ⟨xa, xc, e1, hFx, hq1⟩ := Br.FA.of_own Rc.encF_len hown7 hSl2.symm
                injection e1 with e1 e2 e3
                subst e1
                subst e3
                refine ⟨S, HS9.out, hFx, hSS2.out, fun q hq => ⟨(hown7.lt q.block (by rw [show fa = some q from hq]; rfl)).2, fun e9 => ?_⟩⟩
                have h8 := hq1 q hq
                injection e9 with e9
                have e8 : q.block = g := e9
                omega)
            have HT : Hid (((T.set k (Ct.turnR fr tt t.1, fa, fc)).take (k + 1)).map (·.1) = (rs.take (k + 1)).map (Ct.turnR fr tt)) := Lib.hid (by
              rw [Ct.map_take _ hr, ← hTt.out, List.take_add_one, List.getElem?_set_self (by omega), List.take_set_of_le (Nat.le_refl _), List.map_append]
              rfl)
            have HTD : Hid ((T.set k (Ct.turnR fr tt t.1, fa, fc)).drop (k + 1) = T0.drop (k + 1)) := Lib.hid (by rw [List.drop_set_of_lt (show k < k + 1 by omega), ← List.drop_drop, ← List.drop_drop, hTd.out])
            go_wp2
            go_roundw
            case rel => exact ⟨k + 1, T.set k (Ct.turnR fr tt t.1, fa, fc), by omega, by go_num, by simpa using hTl2, HT, HTD, hNF, hown9, hb57⟩
            case measure => simp [intOf]; omega
      · obtain rfl : k = rs.length := by omega
        have hT9 := hTt.out
        rw [List.take_length, List.take_of_length_le (by omega)] at hT9
        have hTN9 := hTN.out
        rw [List.take_of_length_le (by omega)] at hTN9
        obtain ⟨xa, xc, e1, hR⟩ := Rc.RdA.of_own hown2 hTl2.symm (fun t ht => (hTN9 t ht).fld hb)
        rw [hT9] at hR e1
        clear hT9 hTN9 hTt hTN
        go_wp2
        go_ret
        exact ⟨xa, xc, by rw [← e1]; rfl, hR, hb⟩
end Go.Proofs.YtlinaeklhkfbcaaGreatDoor
