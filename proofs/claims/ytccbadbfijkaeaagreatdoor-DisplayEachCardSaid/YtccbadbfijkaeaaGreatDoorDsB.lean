/- Layer 25: label, title, Brief: what the program's calls return. -/
import Derived.Test.YtccbadbfijkaeaaGreatDoorRcE
import Derived.Test.YtccbadbfijkaeaaGreatDoorDsA
namespace Go.Proofs.YtccbadbfijkaeaaGreatDoor
open Go.RowKit
set_option maxRecDepth 100000

namespace Ds
theorem label_hit {tag : ByteArray} {l : List UInt8} (h : (tag.toList == l) = true) : labelOf tag.data.toList = labelOf l := by
  rw [Lib.toList_data] at h
  rw [beq_iff_eq.1 h]
theorem label_none {tag : ByteArray} (h0 : (tag.toList == [48, 50, 48]) = false) (h1 : (tag.toList == [48, 50, 50]) = false) (h2 : (tag.toList == [49, 48, 48]) = false) (h3 : (tag.toList == [49, 49, 48]) = false) (h4 : (tag.toList == [50, 52, 53]) = false) (h5 : (tag.toList == [50, 53, 48]) = false) (h6 : (tag.toList == [50, 54, 48]) = false) (h7 : (tag.toList == [50, 54, 52]) = false) (h8 : (tag.toList == [51, 48, 48]) = false) (h9 : (tag.toList == [52, 52, 48]) = false) (h10 : (tag.toList == [52, 57, 48]) = false) (h11 : (tag.toList == [53, 48, 48]) = false) (h12 : (tag.toList == [53, 50, 48]) = false) (h13 : (tag.toList == [55, 48, 48]) = false) (h14 : (tag.toList == [55, 49, 48]) = false) (h15 : (tag.toList == [56, 53, 54]) = false) : labelOf tag.data.toList = if tag.data.toList.take 1 = [54] then ([83, 117, 98, 106, 101, 99, 116], [97, 120, 121, 122]) else ([], []) := by
  rw [Lib.toList_data] at h0 h1 h2 h3 h4 h5 h6 h7 h8 h9 h10 h11 h12 h13 h14 h15
  unfold labelOf rows
  simp only [List.find?_cons, List.find?_nil, h0, h1, h2, h3, h4, h5, h6, h7, h8, h9, h10, h11, h12, h13, h14, h15]
theorem pre6 {l : List UInt8} {b : Bool} (h : Lib.hasPrefix l [54] = b) : (l.take 1 = [54]) = (b = true) := by
  unfold Lib.hasPrefix at h
  subst h
  cases l with
  | nil => simp
  | cons x r => simp [List.isPrefixOf]; exact ⟨fun h => h.symm, fun h => h.symm⟩
theorem label_none2 {tag : ByteArray} (h0 : (tag.toList == [48, 50, 48]) = false) (h1 : (tag.toList == [48, 50, 50]) = false) (h2 : (tag.toList == [49, 48, 48]) = false) (h3 : (tag.toList == [49, 49, 48]) = false) (h4 : (tag.toList == [50, 52, 53]) = false) (h5 : (tag.toList == [50, 53, 48]) = false) (h6 : (tag.toList == [50, 54, 48]) = false) (h7 : (tag.toList == [50, 54, 52]) = false) (h8 : (tag.toList == [51, 48, 48]) = false) (h9 : (tag.toList == [52, 52, 48]) = false) (h10 : (tag.toList == [52, 57, 48]) = false) (h11 : (tag.toList == [53, 48, 48]) = false) (h12 : (tag.toList == [53, 50, 48]) = false) (h13 : (tag.toList == [55, 48, 48]) = false) (h14 : (tag.toList == [55, 49, 48]) = false) (h15 : (tag.toList == [56, 53, 54]) = false) {b : Bool} (hb : Lib.hasPrefix tag.data.toList [54] = b) : labelOf tag.data.toList = if b = true then ([83, 117, 98, 106, 101, 99, 116], [97, 120, 121, 122]) else ([], []) := by
  rw [label_none h0 h1 h2 h3 h4 h5 h6 h7 h8 h9 h10 h11 h12 h13 h14 h15]
  have := pre6 hb
  cases b
  · rw [if_neg (by rw [this]; simp)]; rfl
  · rw [if_pos (by rw [this])]; rfl
theorem contra {b : Bool} (h1 : b = true) (h2 : b = false) : False := by rw [h1] at h2; cases h2
end Ds

set_option maxHeartbeats 1600000 in
theorem label_c (tag : ByteArray) (w : World) :
    Calls Tryz.prog 44 #[.string tag] w fun e w' => e = .returned (.tuple #[.string ⟨(Ds.labelOf tag.data.toList).1.toArray⟩, .string ⟨(Ds.labelOf tag.data.toList).2.toArray⟩]) ∧ w' = w := by
  obtain ⟨b, hb⟩ : ∃ b, Lib.hasPrefix tag.data.toList [54] = b := ⟨_, rfl⟩
  have HB := Lib.hid hb; clear hb
  cases b
  all_goals
    go_enter Tryz.func44, Tryz.ntmps44
    go_wp2_with (go_at_call 77; refine (Tryz.strings_HasPrefix tag ⟨#[54]⟩ _).mono ?_; rintro e w1 ⟨rfl, rfl⟩; rw [show Lib.hasPrefix tag.data.toList (⟨#[54]⟩ : ByteArray).data.toList = _ from HB.out])
    all_goals
      go_ret2
      refine ⟨?_, rfl⟩
      first
        | (rw [Ds.label_hit (by assumption)]; rfl)
        | (rw [Ds.label_none2 (by assumption) (by assumption) (by assumption) (by assumption) (by assumption) (by assumption) (by assumption) (by assumption) (by assumption) (by assumption) (by assumption) (by assumption) (by assumption) (by assumption) (by assumption) (by assumption) HB.out]; rfl)
        | exact (Ds.contra (b := (tag.toList == [50, 54, 48])) (by assumption) (by assumption)).elim
        | exact (Ds.contra (b := (tag.toList == [52, 52, 48])) (by assumption) (by assumption)).elim

set_option maxHeartbeats 800000 in
theorem title_c (fs : List Rc.Fl) (a : Option Addr) (c : Nat) (id ver kind : Int) (lang : ByteArray) (w : World) (h : Rc.FldA w a c fs) (hg : ∀ f ∈ fs, Rc.Gd f) :
    Calls Tryz.prog 31 #[.agg #[.int .i64 id, .int .i64 ver, .int .i64 kind, .string lang, .slice a fs.length c]] w fun e w' => e = .returned (.string ⟨(Ds.heading fs).toArray⟩) ∧ Below w.heap.size w w' := by
  have hB := Tx.newb w (.cells #[.int .i64 id, .int .i64 ver, .int .i64 kind, .string lang, .slice a fs.length c] 24)
  have h1 := h.below hB
  have HG := Lib.hid hg; clear hg
  obtain ⟨T, hT⟩ : ∃ T, Rc.title fs = T := ⟨_, rfl⟩
  have hH : Ds.heading fs = if T = [] then [117, 110, 116, 105, 116, 108, 101, 100] else T := by unfold Ds.heading; rw [hT]
  have HT := Lib.hid hT; clear hT
  have HH := Lib.hid hH; clear hH
  by_cases hT0 : T = []
  · subst hT0
    go_enter Tryz.func31, Tryz.ntmps31
    go_wp2_with (go_at_call 60; refine (record_Title_c fs a c id ver kind lang _ h1 HG.out).mono ?_; rintro e w1 ⟨rfl, hb1⟩; rw [HT.out])
    go_ret
    exact ⟨Tx.rets (by rw [HH.out]; rfl), Tx.step hB hb1⟩
  · have hne : (!T.isEmpty) = true := by simpa using hT0
    have HN := Lib.hid hT0; clear hT0
    go_enter Tryz.func31, Tryz.ntmps31
    go_wp2_with (go_at_call 60; refine (record_Title_c fs a c id ver kind lang _ h1 HG.out).mono ?_; rintro e w1 ⟨rfl, hb1⟩; rw [HT.out])
    go_ret
    exact ⟨Tx.rets (by rw [HH.out, if_neg HN.out]), Tx.step hB hb1⟩
end Go.Proofs.YtccbadbfijkaeaaGreatDoor
