/- Layer 20's laws: small, few, raw and in: what the calls return. -/
import Derived.Test.YtcjalpegffldaaaGreatDoorJc
import Derived.Test.YtcjalpegffldaaaGreatDoorJi
namespace Go.Proofs.YtcjalpegffldaaaGreatDoor
open Go.RowKit
set_option maxRecDepth 100000

namespace Ix
open Rc
/-- How many bytes the values of a field have. -/
def vsF (l : List (UInt8 × ByteArray)) : Nat := (l.map fun x => x.2.size).sum
def vs (fs : List Fl) : Nat := (fs.map fun f => vsF f.subs).sum
theorem sum_take {α : Type} (g : α → Nat) {l : List α} {k : Nat} {x : α} (h : l[k]? = some x) : ((l.take (k + 1)).map g).sum = ((l.take k).map g).sum + g x := by
  rw [take_snoc h, List.map_append, List.sum_append]
  simp
theorem sum_le {α : Type} (g : α → Nat) (l : List α) (k : Nat) : ((l.take k).map g).sum ≤ (l.map g).sum := by
  conv => rhs; rw [← List.take_append_drop k l, List.map_append, List.sum_append]
  exact Nat.le_add_right _ _
theorem le_sum {α : Type} (g : α → Nat) {l : List α} {x : α} (h : x ∈ l) : g x ≤ (l.map g).sum := by
  obtain ⟨k, hk⟩ := List.getElem?_of_mem h
  have h1 := sum_take g hk
  have h2 := sum_le g l (k + 1)
  omega
/-- A record as in small. -/
def smallB (r : Rd) : Bool := decide (r.fields.length ≤ 10) && (decide (vs r.fields ≤ 300) && (recE r == 0))
def fewB (rs : List Rd) : Bool := decide (rs.length ≤ 5) && rs.all smallB
def rawB (T : List PT) : Bool := decide (T.length ≤ 40) && T.all fun t => decide (t.1.word.length ≤ 100) && decide (t.1.at_.length ≤ 40)
end Ix

set_option maxHeartbeats 3200000 in
theorem lx_small_c (fs : List Rc.Fl) (a : Option Addr) (c : Nat) (id ver kind : Int) (lang : ByteArray) (w : World) (h : Rc.FldA w a c fs) (hz : ∀ f ∈ fs, ∀ x ∈ f.subs, x.2.size ≤ 140737488351232) :
    Calls Tryz.prog 10 #[.agg #[.int .i64 id, .int .i64 ver, .int .i64 kind, .string lang, .slice a fs.length c]] w fun e w' => e = .returned (.bool (Ix.smallB ⟨id, ver, kind, lang, fs⟩)) ∧ Below w.heap.size w w' := by
  obtain ⟨W, hW⟩ : ∃ W, w.alloc (.cells #[.int .i64 id, .int .i64 ver, .int .i64 kind, .string lang, .slice a fs.length c] 24) = W := ⟨_, rfl⟩
  have hB : Below w.heap.size w W := by rw [← hW]; exact Tx.newb _ _
  have c0 : W.cell? ⟨w.heap.size, 0, none⟩ = some (.int .i64 id) := by rw [← hW]; simp
  have c1 : W.cell? ⟨w.heap.size, 1, none⟩ = some (.int .i64 ver) := by rw [← hW]; simp
  have c2 : W.cell? ⟨w.heap.size, 2, none⟩ = some (.int .i64 kind) := by rw [← hW]; simp
  have c3 : W.cell? ⟨w.heap.size, 3, none⟩ = some (.string lang) := by rw [← hW]; simp
  have c4 : W.cell? ⟨w.heap.size, 4, none⟩ = some (.slice a fs.length c) := by rw [← hW]; simp
  have HS := Lib.hid (h.below hB)
  have hcap := h.cap
  have hmx : maxLen = 9223372036854775807 := rfl
  have hmax := h.max
  have HZ := Lib.hid hz; clear hz h
  by_cases h10 : fs.length ≤ 10
  · have HE : Hid (∀ q, (decide (Ix.vs fs ≤ 300) && (Rc.recE ⟨id, ver, kind, lang, fs⟩ == 0)) = q → Ix.smallB ⟨id, ver, kind, lang, fs⟩ = q) := Lib.hid (fun q hq => by unfold Ix.smallB; rw [decide_eq_true h10, Bool.true_and]; exact hq)
    have hd : ¬ (10 : Int) < (fs.length : Int) := by omega
    have hd2 : decide ((10 : Int) < (fs.length : Int)) = false := decide_eq_false hd
    go_enter Tryz.func10, Tryz.ntmps10
    go_wp2
    clear hW
    go_loop [3, 4, 5] (fun n i _ => ∃ (k s : Nat), k ≤ fs.length ∧ i = .int .i64 k ∧ n = .int .i64 s ∧ s ≤ 300 ∧ Hid (Ix.vs (fs.take k) = s)) (fun _ i _ => fs.length - (intOf i).toNat)
    case atStart => exact ⟨0, 0, Nat.zero_le _, by go_num, by go_num, by omega, Lib.hid rfl⟩
    case round =>
      obtain ⟨k, s, hk, rfl, rfl, hs3, HSM⟩ := hrel
      by_cases hlt : k < fs.length
      · obtain ⟨f, hf⟩ : ∃ f, fs[k]? = some f := ⟨_, List.getElem?_eq_getElem hlt⟩
        obtain ⟨b, o, sa, sc, rfl, hbl, d0, d1, d2, d3, hsub⟩ := HS.out.get hf
        have hsc := hsub.cap
        have hsm := hsub.max
        have HSU := Lib.hid hsub
        have HF := Lib.hid hf
        clear hsub hf
        go_wp2
        go_loop [3, 5] (fun n i => ∃ (j t : Nat), j ≤ f.subs.length ∧ i = .int .i64 j ∧ n = .int .i64 t ∧ t ≤ 300 ∧ Hid (s + Ix.vsF (f.subs.take j) = t)) (fun _ i => f.subs.length - (intOf i).toNat)
        case atStart => exact ⟨0, s, Nat.zero_le _, by go_num, rfl, hs3, Lib.hid (by simp [Ix.vsF])⟩
        case round =>
          obtain ⟨j, t, hj, rfl, rfl, ht3, HT⟩ := hrel
          by_cases hjl : j < f.subs.length
          · obtain ⟨x, hx⟩ : ∃ x, f.subs[j]? = some x := ⟨_, List.getElem?_eq_getElem hjl⟩
            obtain ⟨b2, o2, rfl, hb2, g0, g1⟩ := HSU.out.get hx
            have hxs := HZ.out f (List.mem_of_getElem? HF.out) x (List.mem_of_getElem? hx)
            have hst := Ix.sum_take (fun x : UInt8 × ByteArray => x.2.size) hx
            have HST : Hid (s + Ix.vsF (f.subs.take (j + 1)) = t + x.2.size) := Lib.hid (by have h9 := HT.out; unfold Ix.vsF at h9 ⊢; rw [hst]; omega)
            have HX := Lib.hid hx
            clear hst hx
            by_cases hq : t + x.2.size ≤ 300
            · have hq2 : ¬ (300 : Int) < (t : Int) + (x.2.size : Int) := by omega
              have hq3 : decide ((300 : Int) < (t : Int) + (x.2.size : Int)) = false := decide_eq_false hq2
              go_wp2
              go_round
              case rel => exact ⟨j + 1, t + x.2.size, hjl, by go_num, by go_num, hq, HST⟩
              case measure => simp [intOf]; omega
            · have hq2 : (300 : Int) < (t : Int) + (x.2.size : Int) := by omega
              have hq3 : decide ((300 : Int) < (t : Int) + (x.2.size : Int)) = true := decide_eq_true hq2
              have HV : Hid (¬ Ix.vs fs ≤ 300) := Lib.hid (by
                have h7 := Ix.sum_le (fun x : UInt8 × ByteArray => x.2.size) f.subs (j + 1)
                have h8 := Ix.sum_take (fun f : Rc.Fl => Ix.vsF f.subs) HF.out
                have h9 := Ix.sum_le (fun f : Rc.Fl => Ix.vsF f.subs) fs (k + 1)
                have h5 := HST.out
                have h6 := HSM.out
                unfold Ix.vs at h6 ⊢
                unfold Ix.vsF at h5 h7 h8 h9 h6 ⊢
                omega)
              go_wp2
              go_ret
              exact ⟨by rw [HE.out false (by rw [decide_eq_false HV.out, Bool.false_and])]; rfl, hB⟩
          · obtain rfl : j = f.subs.length := by omega
            have HN : Hid (Ix.vs (fs.take (k + 1)) = t) := Lib.hid (by
              have h8 := Ix.sum_take (fun f : Rc.Fl => Ix.vsF f.subs) HF.out
              have h6 := HSM.out
              have h5 := HT.out
              rw [List.take_length] at h5
              unfold Ix.vs at h6 ⊢
              omega)
            clear HT
            go_wp2
            go_round
            case rel => exact ⟨k + 1, t, hlt, by go_num, rfl, ht3, HN⟩
            case measure => simp [intOf]; omega
      · obtain rfl : k = fs.length := by omega
        have h9 := HSM.out
        rw [List.take_length] at h9
        have HV : Hid (Ix.vs fs ≤ 300) := Lib.hid (by omega)
        have CR := Lib.hid (r08_Right_c fs a c id ver kind lang W HS.out (fun f hf x hx => by
          have h1 := Ix.le_sum (fun f : Rc.Fl => Ix.vsF f.subs) hf
          have h2 := Ix.le_sum (fun x : UInt8 × ByteArray => x.2.size) hx
          have h3 := HV.out
          unfold Ix.vs at h3
          unfold Ix.vsF at h1 h3
          omega))
        have HE2 : Hid (Ix.smallB ⟨id, ver, kind, lang, fs⟩ = (Rc.recE ⟨id, ver, kind, lang, fs⟩ == 0)) := Lib.hid (HE.out _ (by rw [decide_eq_true HV.out, Bool.true_and]))
        clear h9 HSM
        obtain ⟨E, hE⟩ : ∃ E, Rc.recE ⟨id, ver, kind, lang, fs⟩ = E := ⟨_, rfl⟩
        rw [hE] at CR HE2
        clear hE
        go_wp2_with (go_at_call 34; ((with_reducible refine CR.out.mono ?_); rintro e w1 ⟨rfl, hb1⟩))
        go_ret
        exact ⟨by rw [HE2.out]; rfl, Tx.step hB hb1⟩
  · have HE : Hid (Ix.smallB ⟨id, ver, kind, lang, fs⟩ = false) := Lib.hid (by unfold Ix.smallB; rw [decide_eq_false h10, Bool.false_and])
    have hd : (10 : Int) < (fs.length : Int) := by omega
    have hd2 : decide ((10 : Int) < (fs.length : Int)) = true := decide_eq_true hd
    clear h10
    go_enter Tryz.func10, Tryz.ntmps10
    go_wp2
    go_ret
    exact ⟨by rw [HE.out]; rfl, hB⟩

set_option maxHeartbeats 1600000 in
theorem lx_few_c (rs : List Rc.Rd) (a : Option Addr) (c : Nat) (w : World) (h : Rc.RdA w a c rs) (hz : ∀ r ∈ rs, ∀ f ∈ r.fields, ∀ x ∈ f.subs, x.2.size ≤ 140737488351232) :
    Calls Tryz.prog 14 #[.slice a rs.length c] w fun e w' => e = .returned (.bool (Ix.fewB rs)) ∧ Below w.heap.size w w' := by
  have hcap := h.cap
  have hmax := h.max
  have hmx : maxLen = 9223372036854775807 := rfl
  have HS := Lib.hid h
  have HZ := Lib.hid hz
  clear h hz
  by_cases h5 : rs.length ≤ 5
  · have hd : ¬ (5 : Int) < (rs.length : Int) := by omega
    have hd2 : decide ((5 : Int) < (rs.length : Int)) = false := decide_eq_false hd
    have HE : Hid (∀ q, rs.all Ix.smallB = q → Ix.fewB rs = q) := Lib.hid (fun q hq => by unfold Ix.fewB; rw [decide_eq_true h5, Bool.true_and]; exact hq)
    clear h5
    go_enter Tryz.func14, Tryz.ntmps14
    go_wp2
    go_loopw [3] (fun i wr => ∃ (k : Nat), k ≤ rs.length ∧ i = .int .i64 k ∧ Hid (∀ r ∈ rs.take k, Ix.smallB r = true) ∧ Below w.heap.size w wr) (fun i _ => rs.length - (intOf i).toNat)
    case atStart => exact ⟨0, Nat.zero_le _, by go_num, Lib.hid (fun r hr => by simp at hr), Below.refl _ _⟩
    case round =>
      obtain ⟨k, hk, rfl, HA, hb⟩ := hrel
      by_cases hlt : k < rs.length
      · obtain ⟨r, hr⟩ : ∃ r, rs[k]? = some r := ⟨_, List.getElem?_eq_getElem hlt⟩
        have hrm := List.mem_of_getElem? hr
        obtain ⟨b, o, fa, fc, rfl, hbl, d0, d1, d2, d3, d4, hF⟩ := HS.out.get hr
        replace d0 := cell_later hb d0
        replace d1 := cell_later hb d1
        replace d2 := cell_later hb d2
        replace d3 := cell_later hb d3
        replace d4 := cell_later hb d4
        have CS := Lib.hid (lx_small_c r.fields fa fc r.id r.ver r.kind r.lang wr (hF.below hb) (HZ.out r hrm))
        have HR := Lib.hid hr
        have HRM := Lib.hid hrm
        clear hF hr hrm
        cases hq : Ix.smallB r with
        | true =>
          rw [show Ix.smallB ⟨r.id, r.ver, r.kind, r.lang, r.fields⟩ = true from hq] at CS
          have HQ := Lib.hid hq
          clear hq
          go_wp2_with (go_at_call 10; ((with_reducible refine CS.out.mono ?_); rintro e w1 ⟨rfl, hb1⟩))
          go_roundw
          case rel => exact ⟨k + 1, hlt, by go_num, Lib.hid (fun q hq => by
            rw [Ix.take_snoc HR.out] at hq
            rcases List.mem_append.1 hq with hq | hq
            · exact HA.out q hq
            · rw [List.mem_singleton] at hq; rw [hq]; exact HQ.out), Tx.step hb hb1⟩
          case measure => simp [intOf]; omega
        | false =>
          rw [show Ix.smallB ⟨r.id, r.ver, r.kind, r.lang, r.fields⟩ = false from hq] at CS
          have HQ := Lib.hid hq
          clear hq
          go_wp2_with (go_at_call 10; ((with_reducible refine CS.out.mono ?_); rintro e w1 ⟨rfl, hb1⟩))
          go_ret
          exact ⟨by rw [HE.out false (by rw [Bool.eq_false_iff]; intro h9; have := List.all_eq_true.1 h9 r HRM.out; rw [HQ.out] at this; cases this)]; rfl, Tx.step hb hb1⟩
      · obtain rfl : k = rs.length := by omega
        have h9 := HA.out
        rw [List.take_length] at h9
        have HE2 := Lib.hid (HE.out true (List.all_eq_true.2 h9))
        clear h9 HA
        go_wp2
        go_ret
        exact ⟨by rw [HE2.out]; rfl, hb⟩
  · have hd : (5 : Int) < (rs.length : Int) := by omega
    have hd2 : decide ((5 : Int) < (rs.length : Int)) = true := decide_eq_true hd
    have HE : Hid (Ix.fewB rs = false) := Lib.hid (by unfold Ix.fewB; rw [decide_eq_false h5, Bool.false_and])
    clear h5
    go_enter Tryz.func14, Tryz.ntmps14
    go_wp2
    go_ret
    exact ⟨by rw [HE.out]; rfl, Below.refl _ _⟩

set_option maxHeartbeats 1600000 in
theorem lx_in_c (xs : List Int) (a : Option Addr) (c : Nat) (n : Int) (w : World) (h : Ix.IA w a c xs) :
    Calls Tryz.prog 28 #[.slice a xs.length c, .int .i64 n] w fun e w' => e = .returned (.bool (decide (n ∈ xs))) ∧ w = w' := by
  have hcap := h.cap
  have hmax := h.max
  have hmx : maxLen = 9223372036854775807 := rfl
  have HS := Lib.hid h
  clear h
  go_enter Tryz.func28, Tryz.ntmps28
  go_wp2
  go_loop [5] (fun i => ∃ (k : Nat), k ≤ xs.length ∧ i = .int .i64 k ∧ Hid (∀ x ∈ xs.take k, x ≠ n)) (fun i => xs.length - (intOf i).toNat)
  case atStart => exact ⟨0, Nat.zero_le _, by go_num, Lib.hid (fun r hr => by simp at hr)⟩
  case round =>
    obtain ⟨k, hk, rfl, HA⟩ := hrel
    by_cases hlt : k < xs.length
    · obtain ⟨x, hx⟩ : ∃ x, xs[k]? = some x := ⟨_, List.getElem?_eq_getElem hlt⟩
      obtain ⟨b, o, rfl, hbl, d0⟩ := HS.out.cell hx
      have HX := Lib.hid hx
      clear hx
      by_cases hq : x = n
      · have hq2 : (x == n) = true := by simpa using hq
        have HC : Hid (decide (n ∈ xs) = true) := Lib.hid (decide_eq_true (by rw [← hq]; exact List.mem_of_getElem? HX.out))
        clear hq
        go_wp2
        go_ret
        exact ⟨by rw [HC.out]; rfl, rfl⟩
      · have hq2 : (x == n) = false := by simpa using hq
        have HQ := Lib.hid hq
        clear hq
        go_wp2
        go_round
        case rel => exact ⟨k + 1, hlt, by go_num, Lib.hid (fun y hy => by
          rw [Ix.take_snoc HX.out] at hy
          rcases List.mem_append.1 hy with hy | hy
          · exact HA.out y hy
          · rw [List.mem_singleton] at hy; rw [hy]; exact HQ.out)⟩
        case measure => simp [intOf]; omega
    · obtain rfl : k = xs.length := by omega
      have h9 := HA.out
      rw [List.take_length] at h9
      have HC : Hid (decide (n ∈ xs) = false) := Lib.hid (decide_eq_false (fun h8 => h9 n h8 rfl))
      clear h9 HA
      go_wp2
      go_ret
      exact ⟨by rw [HC.out]; rfl, rfl⟩

set_option maxHeartbeats 1600000 in
theorem lx_raw_c (T : List Ix.PT) (a : Option Addr) (c : Nat) (w : World) (h : Ix.PsA w a c T) :
    Calls Tryz.prog 15 #[.agg #[.slice a T.length c]] w fun e w' => e = .returned (.bool (Ix.rawB T)) ∧ Below w.heap.size w w' := by
  have hcap := h.fa.cap
  have hmax := h.fa.max
  have hmx : maxLen = 9223372036854775807 := rfl
  obtain ⟨W, hW⟩ : ∃ W, w.alloc (.cells #[.slice a T.length c] 34) = W := ⟨_, rfl⟩
  have hB : Below w.heap.size w W := by rw [← hW]; exact Tx.newb _ _
  have c0 : W.cell? ⟨w.heap.size, 0, none⟩ = some (.slice a T.length c) := by rw [← hW]; simp
  have HS := Lib.hid (h.below hB)
  clear h
  by_cases h40 : T.length ≤ 40
  · have hd : ¬ (40 : Int) < (T.length : Int) := by omega
    have hd2 : decide ((40 : Int) < (T.length : Int)) = false := decide_eq_false hd
    have HE : Hid (∀ q, (T.all fun t => decide (t.1.word.length ≤ 100) && decide (t.1.at_.length ≤ 40)) = q → Ix.rawB T = q) := Lib.hid (fun q hq => by unfold Ix.rawB; rw [decide_eq_true h40, Bool.true_and]; exact hq)
    clear h40
    go_enter Tryz.func15, Tryz.ntmps15
    go_wp2
    clear hW
    go_loopw [3] (fun i wr => ∃ (k : Nat), k ≤ T.length ∧ i = .int .i64 k ∧ Hid (∀ t ∈ T.take k, t.1.word.length ≤ 100 ∧ t.1.at_.length ≤ 40) ∧ Below W.heap.size W wr) (fun i _ => T.length - (intOf i).toNat)
    case atStart => exact ⟨0, Nat.zero_le _, by go_num, Lib.hid (fun r hr => by simp at hr), Below.refl _ _⟩
    case round =>
      obtain ⟨k, hk, rfl, HA, hb⟩ := hrel
      replace c0 := cell_later hb c0
      by_cases hlt : k < T.length
      · obtain ⟨⟨y, ya, yc⟩, hy⟩ : ∃ y, T[k]? = some y := ⟨_, List.getElem?_eq_getElem hlt⟩
        have hym := List.mem_of_getElem? hy
        obtain ⟨b, o, rfl, hbl, g0, g1, g2, g3, _⟩ := HS.out.get hy
        simp only at g0 g1 g2 g3
        replace g1 := cell_later hb g1
        replace g3 := cell_later hb g3
        clear g0 g2
        have HY := Lib.hid hy
        have HYM := Lib.hid hym
        clear hy hym
        have key : ∀ q, Hid (¬ (y.word.length ≤ 100 ∧ y.at_.length ≤ 40)) → q = Ix.rawB T → q = false := fun q h9 hq => by
          rw [hq]
          refine HE.out false ?_
          rw [Bool.eq_false_iff]
          intro h8
          have h7 := List.all_eq_true.1 h8 _ HYM.out
          simp only [Bool.and_eq_true, decide_eq_true_eq] at h7
          exact h9.out h7
        have HKEY := Lib.hid key
        clear key
        by_cases q1 : y.word.length ≤ 100
        · have q1' : ¬ (100 : Int) < (y.word.length : Int) := by omega
          have q1b : decide ((100 : Int) < (y.word.length : Int)) = false := decide_eq_false q1'
          by_cases q2 : y.at_.length ≤ 40
          · have q2' : ¬ (40 : Int) < (y.at_.length : Int) := by omega
            have q2b : decide ((40 : Int) < (y.at_.length : Int)) = false := decide_eq_false q2'
            have HQ := Lib.hid (And.intro q1 q2)
            go_wp2
            go_roundw
            case rel => exact ⟨k + 1, hlt, by go_num, Lib.hid (fun u hu => by
              rw [Ix.take_snoc HY.out] at hu
              rcases List.mem_append.1 hu with hu | hu
              · exact HA.out u hu
              · rw [List.mem_singleton] at hu; rw [hu]; exact HQ.out), hb⟩
            case measure => simp [intOf]; omega
          · have q2' : (40 : Int) < (y.at_.length : Int) := by omega
            have q2b : decide ((40 : Int) < (y.at_.length : Int)) = true := decide_eq_true q2'
            have HQ : Hid (¬ (y.word.length ≤ 100 ∧ y.at_.length ≤ 40)) := Lib.hid (by omega)
            go_wp2
            go_ret
            exact ⟨by rw [HKEY.out _ HQ rfl]; rfl, Tx.step hB hb⟩
        · have q1' : (100 : Int) < (y.word.length : Int) := by omega
          have q1b : decide ((100 : Int) < (y.word.length : Int)) = true := decide_eq_true q1'
          have HQ : Hid (¬ (y.word.length ≤ 100 ∧ y.at_.length ≤ 40)) := Lib.hid (by omega)
          go_wp2
          go_ret
          exact ⟨by rw [HKEY.out _ HQ rfl]; rfl, Tx.step hB hb⟩
      · obtain rfl : k = T.length := by omega
        have h9 := HA.out
        rw [List.take_length] at h9
        have HE2 := Lib.hid (HE.out true (List.all_eq_true.2 (fun t ht => by rw [Bool.and_eq_true, decide_eq_true_eq, decide_eq_true_eq]; exact h9 t ht)))
        clear h9 HA
        go_wp2
        go_ret
        exact ⟨by rw [HE2.out]; rfl, Tx.step hB hb⟩
  · have hd : (40 : Int) < (T.length : Int) := by omega
    have hd2 : decide ((40 : Int) < (T.length : Int)) = true := decide_eq_true hd
    have HE : Hid (Ix.rawB T = false) := Lib.hid (by unfold Ix.rawB; rw [decide_eq_false h40, Bool.false_and])
    clear h40
    go_enter Tryz.func15, Tryz.ntmps15
    go_wp2
    go_ret
    exact ⟨by rw [HE.out]; rfl, hB⟩
end Go.Proofs.YtcjalpegffldaaaGreatDoor

/- Plain: what the program's Phrase finds, out of maps, is what the reference finds. -/
namespace Go.Proofs.YtcjalpegffldaaaGreatDoor
set_option maxRecDepth 100000

namespace Ix
open Rc
def hitP (f id : Int) (s : By) (t : PT) : Bool := decide (t.1.fld = f) && (t.1.id == id) && (t.1.word == s)
theorem hitP_iff {f id : Int} {s : By} {t : PT} : hitP f id s t = true ↔ t.1.fld = f ∧ t.1.id = id ∧ t.1.word = s := by
  unfold hitP
  simp [and_assoc]
/-- The last post of a word of a record. -/
def lk (T : List PT) (f id : Int) (s : By) : Option PT := (T.filter (hitP f id s)).getLast?
theorem lk_take {T : List PT} {k : Nat} {t : PT} (f id : Int) (s : By) (h : T[k]? = some t) : lk (T.take (k + 1)) f id s = if hitP f id s t = true then some t else lk (T.take k) f id s := by
  unfold lk
  rw [take_snoc h, List.filter_append]
  by_cases hq : hitP f id s t = true
  · rw [if_pos hq, List.filter_cons, if_pos hq]; simp
  · rw [if_neg hq, List.filter_cons, if_neg hq]; simp
/-- Where a word of a record stands. -/
def atL (T : List PT) (f id : Int) (s : By) : List Int := ((lk T f id s).map fun t => t.1.at_).getD []
theorem asc_same {T : List PT} (hA : Asc (T.map (·.1))) {t u : PT} (ht : t ∈ T) (hu : u ∈ T) (h : sameK t.1 u.1) : t = u := by
  obtain ⟨i, hi, rfl⟩ := List.getElem_of_mem ht
  obtain ⟨j, hj, rfl⟩ := List.getElem_of_mem hu
  have hp := List.pairwise_iff_getElem.1 hA
  rcases Nat.lt_trichotomy i j with hij | hij | hij
  · have := hp i j (by simpa using hi) (by simpa using hj) hij
    simp only [List.getElem_map] at this
    exact absurd h (ltK_ne this)
  · subst hij; rfl
  · have := hp j i (by simpa using hj) (by simpa using hi) hij
    simp only [List.getElem_map] at this
    exact absurd (sameK_symm h) (ltK_ne this)
theorem atL_mem {T : List PT} (hA : Asc (T.map (·.1))) {f id n : Int} {s : By} : n ∈ atL T f id s ↔ ∃ t ∈ T, t.1.fld = f ∧ t.1.id = id ∧ t.1.word = s ∧ n ∈ t.1.at_ := by
  unfold atL lk
  constructor
  · intro h
    cases hc : (T.filter (hitP f id s)).getLast? with
    | none => rw [hc] at h; cases h
    | some t =>
      rw [hc] at h
      have h1 : t ∈ T.filter (hitP f id s) := List.mem_of_getLast? hc
      obtain ⟨h2, h3⟩ := List.mem_filter.1 h1
      obtain ⟨h4, h5, h6⟩ := hitP_iff.1 h3
      exact ⟨t, h2, h4, h5, h6, by simpa using h⟩
  · rintro ⟨t, h2, h4, h5, h6, h7⟩
    have h1 : t ∈ T.filter (hitP f id s) := List.mem_filter.2 ⟨h2, hitP_iff.2 ⟨h4, h5, h6⟩⟩
    cases hc : (T.filter (hitP f id s)).getLast? with
    | none => rw [List.getLast?_eq_none_iff] at hc; rw [hc] at h1; cases h1
    | some u =>
      have hu := List.mem_of_getLast? hc
      obtain ⟨u2, u3⟩ := List.mem_filter.1 hu
      obtain ⟨u4, u5, u6⟩ := hitP_iff.1 u3
      have e : t = u := asc_same hA h2 u2 ⟨by rw [h4, u4], by rw [h6, u6], by rw [h5, u5]⟩
      simpa [← e] using h7
/-- Do the words stand one after the other from a place on? -/
def folP (T : List PT) (f id start : Int) : Nat → List By → Bool
  | _, [] => true
  | j, s :: l => (atL T f id s).contains (IntKind.i64.wrap (start + (j : Int))) && folP T f id start (j + 1) l
def hits (T : List PT) (f : Int) (ws : List By) (id : Int) : Bool := match ws with
  | [] => false
  | s :: l => (atL T f id s).any fun n => folP T f id n 0 (s :: l)
def ofF (T : List PT) (f : Int) : List Int := (T.filter fun t => decide (t.1.fld = f)).map fun t => t.1.id
def phrQ (T : List PT) (f : Int) (ws : List By) : List Int := (ofF T f).filter (hits T f ws)
theorem wrap_add_sub {n start : Int} {j : Nat} (hn : 0 ≤ n ∧ n ≤ 9223372036854775807) (hs : 0 ≤ start ∧ start ≤ 9223372036854775807) (hj : j ≤ 1000000) : IntKind.i64.wrap (n - (j : Int)) = start ↔ n = IntKind.i64.wrap (start + (j : Int)) := by
  have e1 : IntKind.i64.wrap (n - (j : Int)) = n - j := IntWalk.i64_in _ (by omega)
  rw [e1]
  by_cases h : start + (j : Int) ≤ 9223372036854775807
  · rw [IntWalk.i64_in (start + (j : Int)) (by omega)]
    omega
  · have : IntKind.i64.wrap (start + (j : Int)) < 0 := by
      unfold IntKind.wrap
      have hx : (start + (j : Int)) % 2 ^ 64 = start + (j : Int) := Int.emod_eq_of_lt (by omega) (by omega)
      simp only [IntKind.signed, IntKind.bits, hx]
      rw [if_pos (by simp; omega)]
      omega
    omega
theorem fol_same {T : List PT} (hA : Asc (T.map (·.1))) (hat : ∀ t ∈ T, ∀ n ∈ t.1.at_, 0 ≤ n ∧ n ≤ 9223372036854775807) {f id start : Int} (hs : 0 ≤ start ∧ start ≤ 9223372036854775807) : ∀ (l : List By) (j : Nat), j + l.length ≤ 1000000 → folP T f id start j l = folF (T.map (·.1)) f id start j l
  | [], _, _ => rfl
  | s :: l, j, hj => by
    rw [List.length_cons] at hj
    rw [folP, folF_cons, fol_same hA hat hs l (j + 1) (by omega)]
    congr 1
    rw [Bool.eq_iff_iff, List.contains_iff_mem, atL_mem hA, at_T, List.any_eq_true]
    constructor
    · rintro ⟨t, h1, h2, h3, h4, h5⟩
      refine ⟨t, h1, ?_⟩
      unfold atP
      have h6 := hat t h1 _ h5
      simp only [h2, h3, h4, decide_true, Bool.true_and, beq_self_eq_true, List.any_eq_true, decide_eq_true_eq]
      exact ⟨_, h5, (wrap_add_sub h6 hs (by omega)).2 rfl⟩
    · rintro ⟨t, h1, h2⟩
      unfold atP at h2
      simp only [Bool.and_eq_true, decide_eq_true_eq, beq_iff_eq, List.any_eq_true] at h2
      obtain ⟨⟨⟨h3, h4⟩, h5⟩, n, h6, h7⟩ := h2
      have h8 := (wrap_add_sub (hat t h1 _ h6) hs (by omega)).1 h7
      exact ⟨t, h1, h3, h5, h4, by rw [← h8]; exact h6⟩
theorem ofF_mem {T : List PT} {f z : Int} : z ∈ ofF T f ↔ ∃ t ∈ T, t.1.fld = f ∧ t.1.id = z := by
  unfold ofF
  simp [and_assoc]
theorem phr_same {T : List PT} (hA : Asc (T.map (·.1))) (hat : ∀ t ∈ T, ∀ n ∈ t.1.at_, 0 ≤ n ∧ n ≤ 9223372036854775807) (f : Int) (ws : List By) (hw : ws.length ≤ 100000) : Cp.puts Cp.ltI (phrQ T f ws) = phrase (T.map (·.1)) f ws := by
  unfold phrase
  refine Cp.puts_same Cp.ordI fun z => ?_
  unfold phrQ
  rw [List.mem_filter, ofF_mem]
  cases ws with
  | nil => simp [hits, phr]
  | cons s l =>
    rw [List.length_cons] at hw
    unfold hits phr
    simp only [List.mem_flatMap, List.mem_map, List.mem_filter, List.any_eq_true, Bool.and_eq_true, decide_eq_true_eq, beq_iff_eq]
    constructor
    · rintro ⟨_, n, hn, hf⟩
      obtain ⟨t, h1, h2, h3, h4, h5⟩ := (atL_mem hA).1 hn
      have hnb := hat t h1 n h5
      rw [fol_same hA hat hnb _ _ (by rw [List.length_cons]; omega), folF_cons, Bool.and_eq_true] at hf
      exact ⟨t.1, ⟨⟨t, h1, rfl⟩, h2, h4⟩, n, ⟨h5, by rw [h3]; exact hf.2⟩, h3⟩
    · rintro ⟨p, ⟨⟨t, h1, rfl⟩, h2, h4⟩, n, ⟨h5, h6⟩, h3⟩
      have hnb := hat t h1 n h5
      have hn : n ∈ atL T f z s := (atL_mem hA).2 ⟨t, h1, h2, h3, h4, h5⟩
      refine ⟨⟨t, h1, h2, h3⟩, n, hn, ?_⟩
      rw [folP, Bool.and_eq_true]
      refine ⟨?_, ?_⟩
      · rw [List.contains_iff_mem]
        have e : IntKind.i64.wrap (n + ((0 : Nat) : Int)) = n := by
          rw [IntWalk.i64_in _ (by omega)]; omega
        rw [e]; exact hn
      · rw [fol_same hA hat hnb _ _ (by omega), ← h3]
        exact h6
end Ix
end Go.Proofs.YtcjalpegffldaaaGreatDoor

/- Plain: the chapter's example of the index, worked out; no program stands in this file. -/
namespace Go.Proofs.YtcjalpegffldaaaGreatDoor
set_option maxRecDepth 100000
namespace Ix
open Rc
def dg1 : Fl := ⟨⟨[50, 52, 53].toArray⟩, ⟨[49, 48].toArray⟩, [(97, ⟨[68, 111, 103, 115, 32, 97, 110, 100, 32, 100, 111, 103, 115].toArray⟩)], 0⟩
def dg2 : Fl := ⟨⟨[54, 53, 48].toArray⟩, ⟨[32, 48].toArray⟩, [(97, ⟨[68, 111, 103, 115].toArray⟩), (120, ⟨[84, 114, 97, 105, 110, 105, 110, 103].toArray⟩)], 0⟩
def dogsR : Rd := ⟨7, 3, 1, ⟨[101, 110, 103].toArray⟩, [dg1, dg2]⟩
def dogsX : List Post := [⟨0, [97, 110, 100], 7, [1]⟩, ⟨0, [100, 111, 103, 115], 7, [0, 2, 3]⟩, ⟨0, [116, 114, 97, 105, 110, 105, 110, 103], 7, [4]⟩, ⟨1, [97, 110, 100], 7, [1]⟩, ⟨1, [100, 111, 103, 115], 7, [0, 2]⟩, ⟨3, [100, 111, 103, 115], 7, [0]⟩, ⟨3, [116, 114, 97, 105, 110, 105, 110, 103], 7, [1]⟩]
theorem dogs_t1 : terms dogsR.fields 1 = [[100, 111, 103, 115], [97, 110, 100], [100, 111, 103, 115]] := by decide +kernel
theorem dogs_build : build [dogsR] = dogsX := by kernel_rfl
theorem dogs_right : right dogsX = true := by decide +kernel
theorem dogs_word : word dogsX 0 [116, 114, 97, 105, 110, 105, 110, 103] = [7] := by decide +kernel
theorem dogs_prefix : prefix_ dogsX 1 [100, 111] = [7] := by decide +kernel
theorem dogs_phr1 : phrase dogsX 1 [[100, 111, 103, 115], [97, 110, 100]] = [7] := by decide +kernel
theorem dogs_phr2 : phrase dogsX 1 [[97, 110, 100], [97, 110, 100]] = [] := by decide +kernel
/-- What alive looks for among the posts. -/
def likeB (p : Post) : Bool := decide (p.fld = 1) && (decide (p.word = [100, 111, 103, 115]) && (decide (p.id = 7) && decide (p.at_ = [0, 2])))
theorem dogs_like : dogsX.any likeB = true := by decide +kernel
theorem dogs_at : ∀ p ∈ dogsX, ∀ n ∈ p.at_, 0 ≤ n ∧ n ≤ 9223372036854775807 := by decide +kernel
theorem dogs_id : ∀ p ∈ dogsX, -9223372036854775808 ≤ p.id ∧ p.id ≤ 9223372036854775807 := by decide +kernel
theorem dogs_len : ∀ p ∈ dogsX, p.word.length ≤ 1000000 := by decide +kernel
theorem dogs_gd : ∀ f ∈ dogsR.fields, Gd f := by
  intro f hf
  have : f = dg1 ∨ f = dg2 := by simpa [dogsR] using hf
  rcases this with rfl | rfl
  · exact ⟨by decide, by decide +kernel⟩
  · exact ⟨by decide, by decide +kernel⟩
end Ix
end Go.Proofs.YtcjalpegffldaaaGreatDoor
