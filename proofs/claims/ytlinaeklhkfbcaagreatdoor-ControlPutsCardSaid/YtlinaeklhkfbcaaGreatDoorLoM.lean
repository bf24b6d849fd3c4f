/- The fields that should be linked and are not: what the calls return. -/
import Derived.Test.YtlinaeklhkfbcaaGreatDoorKnC
import Derived.Test.YtlinaeklhkfbcaaGreatDoorKdB
import Derived.Sort.OwnSorted
import Derived.Sort.OwnSortedInts
import Derived.Lib.OwnBridge
import Derived.Lib.RowBridge
import Derived.Deep.QuietTactic
namespace Go.Proofs.YtlinaeklhkfbcaaGreatDoor
open Go.RowKit
set_option maxRecDepth 100000

theorem info_int : (Tryz.prog.info? 3).map (fun i => (i.zero, i.size, i.bytes)) = some (some (.int .i64 0), 1, 8) := by kernel_rfl

theorem own_lower {w : World} {B B' e size n : Nat} {v : Value} {xs : List Value} (h : w.ownsRow B e size v n xs) (hB : B' ≤ B) : w.ownsRow B' e size v n xs := by
  refine ⟨h.1, ?_⟩
  rcases h.2 with h1 | ⟨g, cap, cur, h1, h2, h3⟩
  · exact .inl h1
  · exact .inr ⟨g, cap, cur, h1, Nat.le_trans hB h2, h3⟩

namespace Ct
theorem loose_step {fs : List Rc.Fl} {k : Nat} {f : Rc.Fl} (h : fs[k]? = some f) : looseAt k (fs.drop k) = (if looseF f = true then [(k : Int)] else []) ++ looseAt (k + 1) (fs.drop (k + 1)) := by
  obtain ⟨hk, e⟩ := List.getElem?_eq_some_iff.1 h
  rw [List.drop_eq_getElem_cons hk, e, looseAt]
  split <;> rfl
theorem loose_yes {f : Rc.Fl} (h1 : f.auth = 0) (h2 : 0 < kindOf f.tag.data.toList) : looseF f = true := by unfold looseF; simp [h1, h2]
theorem loose_no1 {f : Rc.Fl} (h1 : ¬ f.auth = 0) : looseF f = false := by unfold looseF; simp [h1]
theorem loose_no2 {f : Rc.Fl} (h2 : ¬ 0 < kindOf f.tag.data.toList) : looseF f = false := by unfold looseF; simp; intro; omega
theorem loose_len : ∀ (fs : List Rc.Fl) (k : Nat), (looseAt k fs).length ≤ fs.length
  | [], _ => Nat.le_refl _
  | f :: r, k => by
    have := loose_len r (k + 1)
    unfold looseAt
    split <;> simp <;> omega
end Ct

set_option maxHeartbeats 1600000 in
theorem control_Loose_c (fs : List Rc.Fl) (a : Option Addr) (c : Nat) (id ver kind : Int) (lang : ByteArray) (w : World) (h : Rc.FldA w a c fs) (hS : Ct.StdW w) (hn : fs.length ≤ 1000000) :
    Calls Tryz.prog 19 #[.agg #[.int .i64 id, .int .i64 ver, .int .i64 kind, .string lang, .slice a fs.length c]] w fun e w' => ∃ v, e = .returned v ∧ w'.ownsRow w.heap.size 3 1 v (Ct.looseAt 0 fs).length ((Ct.looseAt 0 fs).map (Value.int .i64)) ∧ Below w.heap.size w w' := by
  obtain ⟨i0, hi0, hz0, hz1, hz2⟩ := info_parts info_int
  obtain ⟨W, hW⟩ : ∃ W, w.alloc (.cells #[.int .i64 id, .int .i64 ver, .int .i64 kind, .string lang, .slice a fs.length c] 38) = W := ⟨_, rfl⟩
  have hB : Below w.heap.size w W := by rw [← hW]; exact Tx.newb _ _
  have c4 : W.cell? ⟨w.heap.size, 4, none⟩ = some (.slice a fs.length c) := by rw [← hW]; simp
  have hcap := h.cap
  have hmx : maxLen = 9223372036854775807 := rfl
  have hmax := h.max
  go_enter Tryz.func19, Tryz.ntmps19
  go_wp2
  clear hW
  go_loopw [3, 9] (fun v i wr => ∃ (k : Nat) (out : List Int), k ≤ fs.length ∧ i = .int .i64 k ∧ Hid (out ++ Ct.looseAt k (fs.drop k) = Ct.looseAt 0 fs) ∧ out.length ≤ k ∧ wr.ownsRow w.heap.size 3 1 v out.length (out.map (Value.int .i64)) ∧ Below w.heap.size w wr) (fun _ i _ => fs.length - (intOf i).toNat)
  case atStart => exact ⟨0, [], Nat.zero_le _, rfl, Lib.hid rfl, Nat.le_refl _, ⟨rfl, .inl ⟨rfl, rfl⟩⟩, hB⟩
  case round =>
    obtain ⟨k, out, hk, rfl, hI, hol, hown, hb⟩ := hrel
    have hbs := hb.size
    by_cases hlt : k < fs.length
    · obtain ⟨f, hf⟩ : ∃ f, fs[k]? = some f := ⟨_, List.getElem?_eq_getElem hlt⟩
      obtain ⟨b, o, sa, sc, rfl, hbl, d0, d1, d2, d3, hsub⟩ := h.get hf
      replace d0 := cell_later hb d0
      replace d1 := cell_later hb d1
      replace d2 := cell_later hb d2
      replace d3 := cell_later hb d3
      have hst := Ct.loose_step hf
      have hS1 : Ct.StdW (wr.alloc (.cells #[.string f.tag, .string f.ind, .slice sa f.subs.length sc, .int .i64 f.auth] 24)) := (Br.FA.below (Br.FA.below hS hb) (Tx.newb _ _))
      have HS1 := Lib.hid hS1; clear hS1
      have hb1 : Below w.heap.size w (wr.alloc (.cells #[.string f.tag, .string f.ind, .slice sa f.subs.length sc, .int .i64 f.auth] 24)) := hb.alloc hbs _
      have hown1 := hown.alloc (.cells #[.string f.tag, .string f.ind, .slice sa f.subs.length sc, .int .i64 f.auth] 24)
      by_cases h0 : f.auth = 0
      · rw [h0] at d3
        obtain ⟨KF, hKF⟩ : ∃ KF, Ct.kindOf f.tag.data.toList = KF := ⟨_, rfl⟩
        by_cases hkp : 0 < KF
        · rw [if_pos (Ct.loose_yes h0 (by rw [hKF]; exact hkp))] at hst
          have HS : Hid ((out ++ [(k : Int)]) ++ Ct.looseAt (k + 1) (fs.drop (k + 1)) = Ct.looseAt 0 fs) := Lib.hid (by rw [List.append_assoc, ← hst]; exact hI.out)
          have HK := Lib.hid hKF; clear hKF hst hf
          rw [h0] at HS1 hb1 hown1
          clear h0
          go_wp2_with (first
            | (go_at_call 25; refine (control_Kind_c f.tag _ HS1.out).mono ?_; rintro e w1 ⟨rfl, hb2⟩; rw [HK.out]; have hown2 := own_below hown1 hb2; have hb3 := Tx.step hb1 hb2; have hb3s := hb3.size)
            | (at_builtin; go_must (refine wpList_append_own _ rfl _ _ 41 rfl w.heap.size 3 i0 (.int .i64 0) 1 8 Tryz.underlying41 hi0 hz0 hz1 hz2 rfl (by decide) _ out.length _ rfl (hown2.alloc _) ⟨_, 0, none⟩ 1 1 [.int .i64 k] rfl rfl (Tx.cell_one_at _ _ (by first | rfl | simp) _ _) (by simp [Value.oneCell']) (by unfold maxLen; omega) (by omega) (by simp; omega) ?_); intro v' w2 hown3 hg3 hnil))
          have hb4 : Below w.heap.size w w2 := (hb3.alloc hb3s _).grown hg3 (by simp; omega) (fun j hj => (hown2.lt j hj).1)
          go_roundw
          case rel => exact ⟨k + 1, out ++ [(k : Int)], by omega, by go_num, HS, by simp; omega, by simpa using hown3, hb4⟩
          case measure => simp [intOf]; omega
        · rw [if_neg (by rw [Ct.loose_no2 (by rw [hKF]; exact hkp)]; simp), List.nil_append] at hst
          have HS : Hid (out ++ Ct.looseAt (k + 1) (fs.drop (k + 1)) = Ct.looseAt 0 fs) := Lib.hid (by rw [← hst]; exact hI.out)
          have HK := Lib.hid hKF; clear hKF hst hf
          rw [h0] at HS1 hb1 hown1
          clear h0
          go_wp2_with (go_at_call 25; refine (control_Kind_c f.tag _ HS1.out).mono ?_; rintro e w1 ⟨rfl, hb2⟩; rw [HK.out]; have hown2 := own_below hown1 hb2; have hb3 := Tx.step hb1 hb2)
          go_roundw
          case rel => exact ⟨k + 1, out, by omega, by go_num, HS, by omega, hown2, hb3⟩
          case measure => simp [intOf]; omega
      · have h9 : (f.auth == 0) = false := beq_eq_false_iff_ne.2 h0
        rw [if_neg (by rw [Ct.loose_no1 h0]; simp), List.nil_append] at hst
        have HS : Hid (out ++ Ct.looseAt (k + 1) (fs.drop (k + 1)) = Ct.looseAt 0 fs) := Lib.hid (by rw [← hst]; exact hI.out)
        clear hst hf h0
        go_wp2
        go_roundw
        case rel => exact ⟨k + 1, out, by omega, by go_num, HS, by omega, hown1, hb1⟩
        case measure => simp [intOf]; omega
    · obtain rfl : k = fs.length := by omega
      have hI2 := hI.out
      rw [List.drop_length, Ct.looseAt, List.append_nil] at hI2
      subst hI2
      clear hI
      go_wp2
      go_ret
      exact ⟨_, rfl, hown, hb⟩

set_option maxHeartbeats 1600000 in
theorem r14_Loose_c (fs : List Rc.Fl) (a : Option Addr) (c : Nat) (id ver kind : Int) (lang : ByteArray) (w : World) (h : Rc.FldA w a c fs) (hn : fs.length ≤ 1000000) :
    Calls Tryz.prog 20 #[.agg #[.int .i64 id, .int .i64 ver, .int .i64 kind, .string lang, .slice a fs.length c]] w fun e w' => ∃ v, e = .returned v ∧ w'.ownsRow w.heap.size 3 1 v (Ct.looseAt 0 fs).length ((Ct.looseAt 0 fs).map (Value.int .i64)) ∧ Below w.heap.size w w' := by
  obtain ⟨i0, hi0, hz0, hz1, hz2⟩ := info_parts info_int
  obtain ⟨W, hW⟩ : ∃ W, w.alloc (.cells #[.int .i64 id, .int .i64 ver, .int .i64 kind, .string lang, .slice a fs.length c] 38) = W := ⟨_, rfl⟩
  have hB : Below w.heap.size w W := by rw [← hW]; exact Tx.newb _ _
  have c4 : W.cell? ⟨w.heap.size, 4, none⟩ = some (.slice a fs.length c) := by rw [← hW]; simp
  have hWs : w.heap.size < W.heap.size := by rw [← hW]; simp
  have hcap := h.cap
  have hmx : maxLen = 9223372036854775807 := rfl
  have hmax := h.max
  go_enter Tryz.func20, Tryz.ntmps20
  go_wp2
  clear hW
  go_loopw [3, 4] (fun v i wr => ∃ (k : Nat) (out : List Int), k ≤ fs.length ∧ i = .int .i64 k ∧ Hid (out ++ Ct.looseAt k (fs.drop k) = Ct.looseAt 0 fs) ∧ out.length ≤ k ∧ wr.ownsRow W.heap.size 3 1 v out.length (out.map (Value.int .i64)) ∧ Below W.heap.size W wr) (fun _ i _ => fs.length - (intOf i).toNat)
  case atStart => exact ⟨0, [], Nat.zero_le _, rfl, Lib.hid rfl, Nat.le_refl _, World.ownsRow_lit (base := W.heap.size) (e := 3) (size := 1) W #[] 0 (by simp) (by unfold maxLen; omega) rfl, Tx.newb _ _⟩
  case round =>
    obtain ⟨k, out, hk, rfl, hI, hol, hown, hb⟩ := hrel
    have hbs := hb.size
    have hbw := Tx.step hB hb
    replace c4 := cell_later hb c4
    by_cases hlt : k < fs.length
    · obtain ⟨f, hf⟩ : ∃ f, fs[k]? = some f := ⟨_, List.getElem?_eq_getElem hlt⟩
      obtain ⟨b, o, sa, sc, rfl, hbl, d0, d1, d2, d3, hsub⟩ := h.get hf
      replace d0 := cell_later hbw d0
      replace d3 := cell_later hbw d3
      clear d1 d2
      have hst := Ct.loose_step hf
      obtain ⟨KF, hKF⟩ : ∃ KF, Ct.kindOf f.tag.data.toList = KF := ⟨_, rfl⟩
      by_cases hkp : 0 < KF
      · by_cases h0 : f.auth = 0
        · rw [h0] at d3
          rw [if_pos (Ct.loose_yes h0 (by rw [hKF]; exact hkp))] at hst
          have HS : Hid ((out ++ [(k : Int)]) ++ Ct.looseAt (k + 1) (fs.drop (k + 1)) = Ct.looseAt 0 fs) := Lib.hid (by rw [List.append_assoc, ← hst]; exact hI.out)
          have HK := Lib.hid hKF; clear hKF hst hf h0
          go_wp2_with (first
            | (go_at_call 33; refine (r14_Kind_c f.tag _).mono ?_; rintro e w1 ⟨rfl, hb2⟩; rw [HK.out]; have c4b := cell_later hb2 c4; have d3b := cell_later hb2 d3; have hown2 := own_below hown hb2; have hb3 := Tx.step hb hb2; have hb3s := hb3.size)
            | (at_builtin; go_must (refine wpList_append_own _ rfl _ _ 41 rfl W.heap.size 3 i0 (.int .i64 0) 1 8 Tryz.underlying41 hi0 hz0 hz1 hz2 rfl (by decide) _ out.length _ rfl (hown2.alloc _) ⟨_, 0, none⟩ 1 1 [.int .i64 k] rfl rfl (Tx.cell_one_at _ _ (by first | rfl | simp) _ _) (by simp [Value.oneCell']) (by unfold maxLen; omega) (by omega) (by simp; omega) ?_); intro v' w2 hown3 hg3 hnil))
          have hb4 : Below W.heap.size W w2 := (hb3.alloc hb3s _).grown hg3 (by simp; omega) (fun j hj => (hown2.lt j hj).1)
          go_roundw
          case rel => exact ⟨k + 1, out ++ [(k : Int)], by omega, by go_num, HS, by simp; omega, by simpa using hown3, hb4⟩
          case measure => simp [intOf]; omega
        · have h9 : (f.auth == 0) = false := beq_eq_false_iff_ne.2 h0
          rw [if_neg (by rw [Ct.loose_no1 h0]; simp), List.nil_append] at hst
          have HS : Hid (out ++ Ct.looseAt (k + 1) (fs.drop (k + 1)) = Ct.looseAt 0 fs) := Lib.hid (by rw [← hst]; exact hI.out)
          have HK := Lib.hid hKF; clear hKF hst hf h0
          go_wp2_with (go_at_call 33; refine (r14_Kind_c f.tag _).mono ?_; rintro e w1 ⟨rfl, hb2⟩; rw [HK.out]; have c4b := cell_later hb2 c4; have d3b := cell_later hb2 d3; have hown2 := own_below hown hb2; have hb3 := Tx.step hb hb2)
          go_roundw
          case rel => exact ⟨k + 1, out, by omega, by go_num, HS, by omega, hown2, hb3⟩
          case measure => simp [intOf]; omega
      · rw [if_neg (by rw [Ct.loose_no2 (by rw [hKF]; exact hkp)]; simp), List.nil_append] at hst
        have HS : Hid (out ++ Ct.looseAt (k + 1) (fs.drop (k + 1)) = Ct.looseAt 0 fs) := Lib.hid (by rw [← hst]; exact hI.out)
        have HK := Lib.hid hKF; clear hKF hst hf
        go_wp2_with (go_at_call 33; refine (r14_Kind_c f.tag _).mono ?_; rintro e w1 ⟨rfl, hb2⟩; rw [HK.out]; have c4b := cell_later hb2 c4; have hown2 := own_below hown hb2; have hb3 := Tx.step hb hb2)
        go_roundw
        case rel => exact ⟨k + 1, out, by omega, by go_num, HS, by omega, hown2, hb3⟩
        case measure => simp [intOf]; omega
    · obtain rfl : k = fs.length := by omega
      have hI2 := hI.out
      rw [List.drop_length, Ct.looseAt, List.append_nil] at hI2
      subst hI2
      clear hI
      go_wp2
      go_ret
      exact ⟨_, rfl, own_lower hown (by omega), hbw⟩
end Go.Proofs.YtlinaeklhkfbcaaGreatDoor

/- slices.Sort and slices.Compact over ints that the call owns; the records that use an authority: what the calls leave. -/
namespace Go.Proofs.YtlinaeklhkfbcaaGreatDoor
open Go.RowKit Go.Sort
set_option maxRecDepth 100000

theorem grownBy_put {α : Type} [Inhabited α] {enc : α → Value} {w : World} {g q : Nat} {d : Array α} : w.grownBy (putRow enc (Sort.ahead w q) g 0 d) (some g) := by
  refine ⟨rfl, rfl, rfl, by simp [putRow, mapBlock, Sort.ahead], fun k hk hne => ?_⟩
  have : g ≠ k := fun e => hne (by rw [e])
  simp [putRow, mapBlock, Sort.ahead, Array.getElem?_modify, this]
theorem SortI_c {v : Value} {bs : List Int} {B : Nat} {w : World} (h : w.ownsRow B 3 1 v bs.length (bs.map (Value.int .i64))) (hl : bs.length ≤ 1000000) :
    Calls Tryz.prog 43 #[v] w fun e w' => e = .returned (.tuple #[]) ∧ w'.ownsRow B 3 1 v bs.length ((bs.mergeSort fun x y => decide (x ≤ y)).map (Value.int .i64)) ∧ w.grownBy w' v.ownBlock := by
  rcases h.2 with ⟨rfl, h0⟩ | ⟨g, cap, cur, rfl, hbase, hb, h1, h2, h3, h4⟩
  · refine (Tryz.slices_Sort_int_none none 0 w).mono fun e w' ⟨he, hw⟩ => ?_
    subst hw
    have hnil := List.eq_nil_of_length_eq_zero h0
    subst hnil
    exact ⟨he, by rw [List.mergeSort_nil]; exact World.ownsRow_nil _ _ _ _, ⟨rfl, rfl, rfl, Nat.le_refl _, fun _ _ _ => rfl⟩⟩
  · refine (Tryz.slices_Sort_int g 0 cap bs w (holds_of_blockI hb (by simpa using h4)) (Array.getElem?_eq_some_iff.1 hb).1 (by omega)).mono fun e w' ⟨he, n, os, hw⟩ => ?_
    subst hw
    exact ⟨he, ownsRow_sortedI (by simp) hbase hb h1 h2 h3, grownBy_sortedI _⟩
theorem CompactI_c {v : Value} {xs : List Int} {B : Nat} {w : World} (h : w.ownsRow B 3 1 v xs.length (xs.map (Value.int .i64))) (hl : xs.length ≤ 1000000) :
    Calls Tryz.prog 44 #[v] w fun e w' => ∃ va vc, e = .returned (.slice va (Lib.compact xs).length vc) ∧ w'.ownsRow B 3 1 (.slice va (Lib.compact xs).length vc) (Lib.compact xs).length ((Lib.compact xs).map (Value.int .i64)) ∧ (Value.slice va (Lib.compact xs).length vc).ownBlock = v.ownBlock ∧ w.grownBy w' v.ownBlock := by
  by_cases hnil : v = .slice none 0 0
  · subst hnil
    have h0 : xs = [] := by
      rcases h.2 with ⟨_, h0⟩ | ⟨g, cap, cur, e0, _⟩
      · exact List.eq_nil_of_length_eq_zero h0
      · cases e0
    subst h0
    refine (Tryz.slices_Compact_int_empty none 0 w).mono fun e w' ⟨he, hw⟩ => ?_
    subst hw
    exact ⟨none, 0, he, World.ownsRow_nil _ _ _ _, rfl, ⟨rfl, rfl, rfl, Nat.le_refl _, fun _ _ _ => rfl⟩⟩
  · obtain ⟨g, cap, rfl, hbg, hgl, hncap, hcm, hlen, hH⟩ := Lib.holds_of_ownsRow (enc := Value.int .i64) h hnil
    have hle := Lib.compact_length_le xs
    refine (Tryz.slices_Compact_int g 0 cap xs w hH (by omega) hncap).mono fun e w' ⟨he, q, hw⟩ => ?_
    subst hw
    have hc := Lib.ownsRow_putRow (enc := Value.int .i64) (q := q) (k := (Lib.compact xs).length) (ys := Lib.compact xs ++ List.replicate (xs.length - (Lib.compact xs).length) 0) h (by simp; omega) hle
    rw [List.take_left] at hc
    exact ⟨_, cap, he, hc, rfl, grownBy_put⟩
namespace Cp
theorem sorted_pairI (bs : List Int) : (bs.mergeSort fun x y => decide (x ≤ y)).Pairwise fun x y => ltI y x = false := by
  have h := List.pairwise_mergeSort (le := fun x y : Int => decide (x ≤ y)) (fun a b c h1 h2 => by simp at *; omega) (fun a b => by simp; omega) bs
  exact h.imp fun h => by unfold ltI; simp at *; omega
theorem compact_sortedI (xs : List Int) : Lib.compact (xs.mergeSort fun x y => decide (x ≤ y)) = puts ltI xs := compact_puts ordI (List.mergeSort_perm _ _) (sorted_pairI xs)
end Cp
end Go.Proofs.YtlinaeklhkfbcaaGreatDoor

/- The records that use an authority: what the program's calls return. -/
namespace Go.Proofs.YtlinaeklhkfbcaaGreatDoor
open Go.RowKit
set_option maxRecDepth 100000

namespace Rc
theorem idxF_any {α : Type} (p : α → Bool) (l : List α) : decide (0 ≤ idxF p 0 l) = l.any p := by
  cases hf : l.find? p with
  | none =>
    rw [idxF_none l 0 hf]
    rw [List.find?_eq_none] at hf
    symm
    rw [decide_eq_false (by decide), List.any_eq_false]
    exact hf
  | some y =>
    obtain ⟨j, hI, hj⟩ := idxF_some l 0 hf
    rw [hI]
    have h1 := List.find?_some hf
    symm
    rw [decide_eq_true (by omega), List.any_eq_true]
    exact ⟨y, List.mem_of_getElem? hj, h1⟩
end Rc
namespace Ct
def ids (rs : List Rc.Rd) (id : Int) : List Int := (rs.filter (usesR · id)).map (·.id)
theorem ids_step {rs : List Rc.Rd} {k : Nat} {r : Rc.Rd} (id : Int) (h : rs[k]? = some r) : ids (rs.take (k + 1)) id = ids (rs.take k) id ++ (if usesR r id = true then [r.id] else []) := by
  unfold ids
  rw [List.take_add_one, h, List.filter_append, List.map_append]
  congr 1
  cases hp : usesR r id <;> simp [hp]
theorem ids_len (rs : List Rc.Rd) (id : Int) : (ids rs id).length ≤ rs.length := by
  unfold ids
  rw [List.length_map]
  exact List.length_filter_le _ _
end Ct

set_option maxHeartbeats 400000 in
theorem uses1_c (t : Rc.FT) (id : Int) (p : Nat) (w : World) (hp : w.cell? ⟨p, 0, none⟩ = some (.int .i64 id)) :
    Calls Tryz.prog 42 #[.agg #[.string t.1.tag, .string t.1.ind, .slice t.2.1 t.1.subs.length t.2.2, .int .i64 t.1.auth], .pointer (some ⟨p, 0, none⟩)] w fun e w' => e = .returned (.bool (t.1.auth == id)) ∧ Below w.heap.size w w' := by
  have hp2 := cell_later (Tx.newb w (.cells #[.string t.1.tag, .string t.1.ind, .slice t.2.1 t.1.subs.length t.2.2, .int .i64 t.1.auth] 24)) hp
  go_enter Tryz.func42, Tryz.ntmps42
  go_wp2
  go_ret
  exact ⟨rfl, Tx.newb _ _⟩

set_option maxHeartbeats 800000 in
theorem idxUse_c (fs : List Rc.Fl) (a : Option Addr) (c : Nat) (id : Int) (p : Nat) (w : World) (h : Rc.FldA w a c fs) (hp : w.cell? ⟨p, 0, none⟩ = some (.int .i64 id)) :
    Calls Tryz.prog 72 #[.slice a fs.length c, .func (.func 42) #[] #[.pointer (some ⟨p, 0, none⟩)]] w fun e w' => e = .returned (.int .i64 (Rc.idxF (fun x => x.auth == id) 0 fs)) ∧ Below w.heap.size w w' := by
  have hcap := h.cap
  have hmax := h.max
  go_enter Tryz.func72, Tryz.ntmps72
  go_wp2
  go_loopw [5, 8] (fun _ i wr => ∃ (k : Nat), k ≤ fs.length ∧ i = .int .i64 k ∧ Hid (Rc.idxF (fun x => x.auth == id) k (fs.drop k) = Rc.idxF (fun x => x.auth == id) 0 fs) ∧ Below w.heap.size w wr) (fun _ i _ => fs.length - (intOf i).toNat)
  case atStart => exact ⟨0, Nat.zero_le _, rfl, Lib.hid (by rw [List.drop_zero]), Below.refl _ _⟩
  case round =>
    obtain ⟨k, hk, rfl, hI, hb⟩ := hrel
    by_cases hlt : k < fs.length
    · obtain ⟨x, hx⟩ : ∃ x, fs[k]? = some x := ⟨_, List.getElem?_eq_getElem hlt⟩
      obtain ⟨b, o, sa, sc, rfl, hbl, d0, d1, d2, d3, hsub⟩ := h.get hx
      replace d0 := cell_later hb d0
      replace d1 := cell_later hb d1
      replace d2 := cell_later hb d2
      replace d3 := cell_later hb d3
      have hp1 := cell_later hb hp
      have hst := Rc.idxF_step (fun x => x.auth == id) hx
      rw [hI.out] at hst
      have hmx : maxLen = 9223372036854775807 := rfl
      cases hq : (x.auth == id) with
      | true =>
        simp only [hq, if_true] at hst
        have HS := Lib.hid hst; clear hst
        have HQ := Lib.hid hq; clear hq
        go_wp2_with (go_at_call 42; refine (uses1_c (x, sa, sc) id p _ hp1).mono ?_; rintro e w1 ⟨rfl, hb1⟩; rw [HQ.out])
        go_ret
        exact ⟨Tx.ret1 HS.out.symm, Tx.step hb hb1⟩
      | false =>
        simp only [hq, Bool.false_eq_true, if_false] at hst
        have HS := Lib.hid hst; clear hst
        have HQ := Lib.hid hq; clear hq
        go_wp2_with (go_at_call 42; refine (uses1_c (x, sa, sc) id p _ hp1).mono ?_; rintro e w1 ⟨rfl, hb1⟩; rw [HQ.out])
        go_roundw
        case rel => exact ⟨k + 1, by omega, by go_num, Lib.hid HS.out.symm, Tx.step hb hb1⟩
        case measure => simp [intOf]; omega
    · obtain rfl : k = fs.length := by omega
      have hI2 := hI.out
      rw [List.drop_length] at hI2
      have HI := Lib.hid hI2; clear hI2 hI
      go_wp2
      go_ret
      exact ⟨Tx.ret1 (by rw [← HI.out]; rfl), hb⟩

set_option maxHeartbeats 800000 in
theorem conUse_c (fs : List Rc.Fl) (a : Option Addr) (c : Nat) (id : Int) (p : Nat) (w : World) (h : Rc.FldA w a c fs) (hp : w.cell? ⟨p, 0, none⟩ = some (.int .i64 id)) :
    Calls Tryz.prog 41 #[.slice a fs.length c, .func (.func 42) #[] #[.pointer (some ⟨p, 0, none⟩)]] w fun e w' => e = .returned (.bool (fs.any fun x => x.auth == id)) ∧ Below w.heap.size w w' := by
  have hq := Lib.hid (Rc.idxF_any (fun x : Rc.Fl => x.auth == id) fs)
  go_enter Tryz.func41, Tryz.ntmps41
  go_wp2_with (go_at_call 72; refine (idxUse_c fs a c id p _ h hp).mono ?_; rintro e w1 ⟨rfl, hb1⟩)
  go_ret
  exact ⟨Tx.retb hq.out, hb1⟩

set_option maxHeartbeats 3200000 in
theorem control_Uses_c (rs : List Rc.Rd) (a : Option Addr) (c : Nat) (id : Int) (w : World) (h : Rc.RdA w a c rs) (hn : rs.length ≤ 1000000) :
    Calls Tryz.prog 21 #[.slice a rs.length c, .int .i64 id] w fun e w' => ∃ v, e = .returned v ∧ w'.ownsRow w.heap.size 3 1 v (Ct.uses rs id).length ((Ct.uses rs id).map (Value.int .i64)) ∧ Below w.heap.size w w' := by
  obtain ⟨i0, hi0, hz0, hz1, hz2⟩ := info_parts info_int
  obtain ⟨W, hW⟩ : ∃ W, w.alloc (.cells #[.int .i64 id] 3) = W := ⟨_, rfl⟩
  have hB : Below w.heap.size w W := by rw [← hW]; exact Tx.newb _ _
  have hp : W.cell? ⟨w.heap.size, 0, none⟩ = some (.int .i64 id) := by rw [← hW]; simp
  have hcap := h.cap
  have hmx : maxLen = 9223372036854775807 := rfl
  have hmax := h.max
  by_cases hid : id < 1
  · have hu : Ct.uses rs id = [] := by unfold Ct.uses; rw [if_pos hid]
    rw [hu]
    go_enter Tryz.func21, Tryz.ntmps21
    go_wp2
    go_ret
    exact ⟨_, rfl, ⟨rfl, .inl ⟨rfl, rfl⟩⟩, by first | exact hB | exact Tx.newb _ _⟩
  · have hu : Ct.uses rs id = Cp.puts Cp.ltI (Ct.ids rs id) := by unfold Ct.uses Ct.ids; rw [if_neg hid]
    rw [hu]
    clear hu
    have hil := Ct.ids_len rs id
    have hid1 : 1 ≤ id := by omega
    clear hid
    go_enter Tryz.func21, Tryz.ntmps21
    go_wp2
    clear hW
    go_loopw [5, 13] (fun v i wr => ∃ (k : Nat) (out : List Int), k ≤ rs.length ∧ i = .int .i64 k ∧ Hid (out = Ct.ids (rs.take k) id) ∧ out.length ≤ k ∧ wr.ownsRow W.heap.size 3 1 v out.length (out.map (Value.int .i64)) ∧ Below W.heap.size W wr) (fun _ i _ => rs.length - (intOf i).toNat)
    case atStart => exact ⟨0, [], Nat.zero_le _, rfl, Lib.hid rfl, Nat.le_refl _, ⟨rfl, .inl ⟨rfl, rfl⟩⟩, Below.refl _ _⟩
    case round =>
      obtain ⟨k, out, hk, rfl, hI, hol, hown, hb⟩ := hrel
      have hbs := hb.size
      have hBs := hB.size
      have hbw := Tx.step hB hb
      have hp1 := cell_later hb hp
      by_cases hlt : k < rs.length
      · obtain ⟨r, hr⟩ : ∃ r, rs[k]? = some r := ⟨_, List.getElem?_eq_getElem hlt⟩
        obtain ⟨b, o, fa, fc, rfl, hbl, c0, c1, c2, c3, c4, hF⟩ := h.get hr
        replace c0 := cell_later hbw c0
        replace c1 := cell_later hbw c1
        replace c2 := cell_later hbw c2
        replace c3 := cell_later hbw c3
        replace c4 := cell_later hbw c4
        obtain ⟨Wr, hWr⟩ : ∃ Wr, wr.alloc (.cells #[.int .i64 r.id, .int .i64 r.ver, .int .i64 r.kind, .string r.lang, .slice fa r.fields.length fc] 38) = Wr := ⟨_, rfl⟩
        have hbr : Below wr.heap.size wr Wr := by rw [← hWr]; exact Tx.newb _ _
        have hp2 := cell_later hbr hp1
        have e0 : Wr.cell? ⟨wr.heap.size, 0, none⟩ = some (.int .i64 r.id) := by rw [← hWr]; simp
        have e4 : Wr.cell? ⟨wr.heap.size, 4, none⟩ = some (.slice fa r.fields.length fc) := by rw [← hWr]; simp
        have hF2 := (hF.below hbw).below hbr
        have hb2 := Tx.step hb hbr
        have hown2 := own_below hown hbr
        have HF := Lib.hid hF2; clear hF2
        have hst := Ct.ids_step id hr
        rw [← hI.out] at hst
        cases hq : (r.fields.any fun x => x.auth == id) with
        | true =>
          rw [if_pos (show Ct.usesR r id = true from hq)] at hst
          have HS := Lib.hid hst; clear hst hr
          have HQ := Lib.hid hq; clear hq
          go_wp2_with (first
            | (go_at_call 41; refine (conUse_c r.fields fa fc id _ _ HF.out hp2).mono ?_; rintro e w1 ⟨rfl, hb3⟩; rw [HQ.out]; have e0b := cell_later hb3 e0; have hown3 := own_below hown2 hb3; have hb4 := Tx.step hb2 hb3; have hb4s := hb4.size)
            | (at_builtin; go_must (refine wpList_append_own _ rfl _ _ 41 rfl W.heap.size 3 i0 (.int .i64 0) 1 8 Tryz.underlying41 hi0 hz0 hz1 hz2 rfl (by decide) _ out.length _ rfl (hown3.alloc _) ⟨_, 0, none⟩ 1 1 [.int .i64 r.id] rfl rfl (Tx.cell_one_at _ _ (by first | rfl | simp) _ _) (by simp [Value.oneCell']) (by unfold maxLen; omega) (by omega) (by simp; omega) ?_); intro v' w2 hown4 hg3 hnil))
          have hb5 : Below W.heap.size W w2 := (hb4.alloc hb4s _).grown hg3 (by simp; omega) (fun j hj => (hown3.lt j hj).1)
          go_roundw
          case rel => exact ⟨k + 1, out ++ [r.id], by omega, by go_num, Lib.hid HS.out.symm, by simp; omega, by simpa using hown4, hb5⟩
          case measure => simp [intOf]; omega
        | false =>
          rw [if_neg (by rw [show Ct.usesR r id = false from hq]; simp), List.append_nil] at hst
          have HS := Lib.hid hst; clear hst hr
          have HQ := Lib.hid hq; clear hq
          go_wp2_with (go_at_call 41; refine (conUse_c r.fields fa fc id _ _ HF.out hp2).mono ?_; rintro e w1 ⟨rfl, hb3⟩; rw [HQ.out]; have hown3 := own_below hown2 hb3; have hb4 := Tx.step hb2 hb3)
          go_roundw
          case rel => exact ⟨k + 1, out, by omega, by go_num, Lib.hid HS.out.symm, by omega, hown3, hb4⟩
          case measure => simp [intOf]; omega
      · obtain rfl : k = rs.length := by omega
        have hI2 := hI.out
        rw [List.take_length] at hI2
        subst hI2
        clear hI
        have hil2 : (Ct.ids rs id).length ≤ 1000000 := by omega
        have hcl := Lib.compact_length_le ((Ct.ids rs id).mergeSort fun x y => decide (x ≤ y))
        rw [List.length_mergeSort] at hcl
        have hms : ((Ct.ids rs id).mergeSort fun x y => decide (x ≤ y)).length = (Ct.ids rs id).length := List.length_mergeSort _
        have HMS := Lib.hid hms; clear hms
        go_wp2_with (first
          | (go_at_call 43; refine (SortI_c hown hil2).mono ?_; rintro e w1 ⟨rfl, hown1, hg1⟩; have hb1 : Below W.heap.size W w1 := hb.grown hg1 hbs (fun j hj => (hown.lt j hj).1); rw [← HMS.out] at hown1; have hb1s := hb1.size)
          | (go_at_call 44; refine (CompactI_c hown1 (by rw [HMS.out]; exact hil2)).mono ?_; rintro e w2 ⟨va, vc, rfl, hown2, hob, hg2⟩; have hb2 : Below W.heap.size W w2 := hb1.grown hg2 hb1s (fun j hj => (hown1.lt j hj).1)))
        go_ret
        rw [Cp.compact_sortedI] at hown2 ⊢
        exact ⟨_, rfl, own_lower hown2 hBs, Tx.step hB hb2⟩
end Go.Proofs.YtlinaeklhkfbcaaGreatDoor

/- The reference's records that use an authority: what the calls return. -/
namespace Go.Proofs.YtlinaeklhkfbcaaGreatDoor
open Go.RowKit
set_option maxRecDepth 100000

namespace Ct
/-- The slice holds these ints. -/
abbrev IA (w : World) (a : Option Addr) (c : Nat) (xs : List Int) : Prop := Br.FA (fun x : Int => [Value.int .i64 x]) 1 w a c xs
theorem flat_int (xs : List Int) : xs.flatMap (fun x => [Value.int .i64 x]) = xs.map (Value.int .i64) := by
  induction xs with
  | nil => rfl
  | cons x r ih => simp [ih]
theorem IA.of_own {w : World} {B e n : Nat} {v : Value} {xs : List Int} (h : w.ownsRow B e 1 v n (xs.map (Value.int .i64))) (hn : n = xs.length) : ∃ a c, v = .slice a xs.length c ∧ IA w a c xs := by
  obtain ⟨a, c, e1, h1, _⟩ := Br.FA.of_own (enc := fun x : Int => [Value.int .i64 x]) (fun _ => rfl) (by rw [flat_int]; exact h) hn
  exact ⟨a, c, e1, h1⟩
theorem IA.cell {w : World} {a : Option Addr} {c : Nat} {xs : List Int} (h : IA w a c xs) {k : Nat} {x : Int} (hk : xs[k]? = some x) : ∃ b o, a = some ⟨b, o, none⟩ ∧ b < w.heap.size ∧ w.cell? ⟨b, o + k, none⟩ = some (.int .i64 x) := by
  obtain ⟨b, o, h1, h2, h3⟩ := h.get hk
  have := h3 0 _ rfl
  rw [Nat.mul_one, Nat.add_zero] at this
  exact ⟨b, o, h1, h2, this⟩
theorem put_drop {xs : List Int} {k : Nat} {x : Int} (n : Int) (h : xs[k]? = some x) : Cp.put Cp.ltI (xs.drop k) n = if x < n then x :: Cp.put Cp.ltI (xs.drop (k + 1)) n else if x = n then x :: xs.drop (k + 1) else n :: x :: xs.drop (k + 1) := by
  obtain ⟨hk, e⟩ := List.getElem?_eq_some_iff.1 h
  rw [List.drop_eq_getElem_cons hk, e, Cp.put]
  unfold Cp.ltI
  simp only [decide_eq_true_eq]
theorem drop_cons {α : Type} {xs : List α} {k : Nat} {x : α} (h : xs[k]? = some x) : xs.drop k = x :: xs.drop (k + 1) := by
  obtain ⟨hk, e⟩ := List.getElem?_eq_some_iff.1 h
  rw [List.drop_eq_getElem_cons hk, e]
theorem put_len (n : Int) : ∀ xs : List Int, (Cp.put Cp.ltI xs n).length ≤ xs.length + 1
  | [] => by simp [Cp.put]
  | y :: r => by
    have := put_len n r
    unfold Cp.put
    split
    · simp; omega
    · split <;> simp
theorem puts_snoc (l : List Int) (x : Int) : Cp.puts Cp.ltI (l ++ [x]) = Cp.put Cp.ltI (Cp.puts Cp.ltI l) x := by
  unfold Cp.puts
  rw [List.foldl_append]
  rfl
theorem foldl_put_len : ∀ (l acc : List Int), (l.foldl (Cp.put Cp.ltI) acc).length ≤ acc.length + l.length
  | [], acc => Nat.le_refl _
  | x :: l, acc => by
    have h1 := foldl_put_len l (Cp.put Cp.ltI acc x)
    have h2 := put_len x acc
    rw [List.foldl_cons, List.length_cons]
    omega
theorem puts_len (l : List Int) : (Cp.puts Cp.ltI l).length ≤ l.length := by
  have := foldl_put_len l []
  unfold Cp.puts
  simpa using this
end Ct

set_option maxHeartbeats 800000 in
theorem r14_uses_c (fs : List Rc.Fl) (a : Option Addr) (c : Nat) (id ver kind : Int) (lang : ByteArray) (k0 : Int) (w : World) (h : Rc.FldA w a c fs) :
    Calls Tryz.prog 45 #[.agg #[.int .i64 id, .int .i64 ver, .int .i64 kind, .string lang, .slice a fs.length c], .int .i64 k0] w fun e w' => e = .returned (.bool (fs.any fun x => x.auth == k0)) ∧ Below w.heap.size w w' := by
  obtain ⟨W, hW⟩ : ∃ W, w.alloc (.cells #[.int .i64 id, .int .i64 ver, .int .i64 kind, .string lang, .slice a fs.length c] 38) = W := ⟨_, rfl⟩
  have hB : Below w.heap.size w W := by rw [← hW]; exact Tx.newb _ _
  have c4 : W.cell? ⟨w.heap.size, 4, none⟩ = some (.slice a fs.length c) := by rw [← hW]; simp
  have hcap := h.cap
  have hmx : maxLen = 9223372036854775807 := rfl
  have hmax := h.max
  go_enter Tryz.func45, Tryz.ntmps45
  go_wp2
  clear hW
  go_loopw [5] (fun i wr => ∃ (k : Nat), k ≤ fs.length ∧ i = .int .i64 k ∧ Hid (∀ y ∈ fs.take k, ¬ y.auth = k0) ∧ W = wr) (fun i _ => fs.length - (intOf i).toNat)
  case atStart => exact ⟨0, Nat.zero_le _, rfl, Lib.hid (by simp), rfl⟩
  case round =>
    obtain ⟨k, hk, rfl, hI, rfl⟩ := hrel
    by_cases hlt : k < fs.length
    · obtain ⟨f, hf⟩ : ∃ f, fs[k]? = some f := ⟨_, List.getElem?_eq_getElem hlt⟩
      obtain ⟨b, o, sa, sc, rfl, hbl, d0, d1, d2, d3, hsub⟩ := h.get hf
      replace d3 := cell_later hB d3
      clear d0 d1 d2
      by_cases he : f.auth = k0
      · have hr : Hid ((fs.any fun x => x.auth == k0) = true) := Lib.hid (List.any_eq_true.2 ⟨f, List.mem_of_getElem? hf, by simpa using he⟩)
        rw [he] at d3
        clear he hf
        go_wp2
        go_ret
        exact ⟨Tx.retb hr.out.symm, hB⟩
      · have h9 : (f.auth == k0) = false := beq_eq_false_iff_ne.2 he
        have hP2 : Hid (∀ y ∈ fs.take (k + 1), ¬ y.auth = k0) := Lib.hid (by
          intro y hy
          rw [List.take_add_one, hf] at hy
          rcases List.mem_append.1 hy with h8 | h8
          · exact hI.out y h8
          · simp at h8; rw [h8]; exact he)
        clear he hf
        go_wp2
        go_roundw
        case rel => exact ⟨k + 1, by omega, by go_num, hP2, by first | rfl | trivial⟩
        case measure => simp [intOf]; omega
    · obtain rfl : k = fs.length := by omega
      have hr : Hid ((fs.any fun x => x.auth == k0) = false) := Lib.hid (List.any_eq_false.2 fun y hy => by
        have := hI.out y (by rw [List.take_length]; exact hy)
        simpa using this)
      go_wp2
      go_ret
      exact ⟨Tx.retb hr.out.symm, hB⟩

set_option maxHeartbeats 1600000 in
theorem r14_Inserted_c (xs : List Int) (a : Option Addr) (c : Nat) (n : Int) (w : World) (h : Ct.IA w a c xs) (hn : xs.length ≤ 1000000) :
    Calls Tryz.prog 23 #[.slice a xs.length c, .int .i64 n] w fun e w' => ∃ v, e = .returned v ∧ w'.ownsRow w.heap.size 3 1 v (Cp.put Cp.ltI xs n).length ((Cp.put Cp.ltI xs n).map (Value.int .i64)) ∧ Below w.heap.size w w' := by
  obtain ⟨i0, hi0, hz0, hz1, hz2⟩ := info_parts info_int
  have hcap := h.cap
  have hmx : maxLen = 9223372036854775807 := rfl
  have hmax := h.max
  go_enter Tryz.func23, Tryz.ntmps23
  go_wp2
  go_loopw [5, 6, 7] (fun v d i wr => ∃ (k : Nat) (out : List Int) (dn : Bool), k ≤ xs.length ∧ i = .int .i64 k ∧ d = .bool dn ∧ Hid (out ++ (if dn = true then xs.drop k else Cp.put Cp.ltI (xs.drop k) n) = Cp.put Cp.ltI xs n) ∧ out.length ≤ k + (if dn = true then 1 else 0) ∧ wr.ownsRow w.heap.size 3 1 v out.length (out.map (Value.int .i64)) ∧ Below w.heap.size w wr) (fun _ _ i _ => xs.length - (intOf i).toNat)
  case atStart => exact ⟨0, [], false, Nat.zero_le _, rfl, rfl, Lib.hid rfl, by simp, World.ownsRow_lit (base := w.heap.size) (e := 3) (size := 1) w #[] 0 (by simp) (by unfold maxLen; omega) rfl, Tx.newb _ _⟩
  case round =>
    obtain ⟨k, out, dn, hk, rfl, rfl, hI, hol, hown, hb⟩ := hrel
    have hbs := hb.size
    have hol2 : out.length ≤ k + 1 := by split at hol <;> omega
    by_cases hlt : k < xs.length
    · obtain ⟨x, hx⟩ : ∃ x, xs[k]? = some x := ⟨_, List.getElem?_eq_getElem hlt⟩
      obtain ⟨b, o, rfl, hbl, d0w⟩ := h.cell hx
      have d0 := cell_later hb d0w
      have hpd := Ct.put_drop n hx
      have hdc := Ct.drop_cons hx
      have hI2 := hI.out
      clear hI
      cases dn with
      | true =>
        rw [if_pos rfl, hdc] at hI2
        have HS : Hid ((out ++ [x]) ++ (if true = true then xs.drop (k + 1) else Cp.put Cp.ltI (xs.drop (k + 1)) n) = Cp.put Cp.ltI xs n) := Lib.hid (by rw [if_pos rfl, List.append_assoc]; exact hI2)
        clear hI2 hpd hdc hx
        go_wp2_with (at_builtin; go_must (refine wpList_append_own _ rfl _ _ 41 rfl w.heap.size 3 i0 (.int .i64 0) 1 8 Tryz.underlying41 hi0 hz0 hz1 hz2 rfl (by decide) _ out.length _ rfl (hown.alloc _) ⟨_, 0, none⟩ 1 1 [.int .i64 x] rfl rfl (Tx.cell_one_at _ _ (by first | rfl | simp) _ _) (by simp [Value.oneCell']) (by unfold maxLen; omega) (by omega) (by simp; omega) ?_); intro v' w2 hown2 hg2 hnil)
        have hb2 : Below w.heap.size w w2 := (hb.alloc hbs _).grown hg2 (by simp; omega) (fun j hj => (hown.lt j hj).1)
        go_roundw
        case rel => exact ⟨k + 1, out ++ [x], true, by omega, by go_num, rfl, HS, by simp; omega, by simpa using hown2, hb2⟩
        case measure => simp [intOf]; omega
      | false =>
        rw [if_neg (by decide), hpd] at hI2
        have hol3 : out.length ≤ k := by simpa using hol
        by_cases hlx : x < n
        · rw [if_pos hlx] at hI2
          have HS : Hid ((out ++ [x]) ++ (if false = true then xs.drop (k + 1) else Cp.put Cp.ltI (xs.drop (k + 1)) n) = Cp.put Cp.ltI xs n) := Lib.hid (by rw [if_neg (by decide), List.append_assoc]; exact hI2)
          clear hI2 hpd hdc hx
          go_wp2_with (at_builtin; go_must (refine wpList_append_own _ rfl _ _ 41 rfl w.heap.size 3 i0 (.int .i64 0) 1 8 Tryz.underlying41 hi0 hz0 hz1 hz2 rfl (by decide) _ out.length _ rfl (hown.alloc _) ⟨_, 0, none⟩ 1 1 [.int .i64 x] rfl rfl (Tx.cell_one_at _ _ (by first | rfl | simp) _ _) (by simp [Value.oneCell']) (by unfold maxLen; omega) (by omega) (by simp; omega) ?_); intro v' w2 hown2 hg2 hnil)
          have hb2 : Below w.heap.size w w2 := (hb.alloc hbs _).grown hg2 (by simp; omega) (fun j hj => (hown.lt j hj).1)
          go_roundw
          case rel => exact ⟨k + 1, out ++ [x], false, by omega, by go_num, rfl, HS, by simp; omega, by simpa using hown2, hb2⟩
          case measure => simp [intOf]; omega
        · rw [if_neg hlx] at hI2
          have hge : n ≤ x := by omega
          by_cases hxe : x = n
          · rw [if_pos hxe] at hI2
            have HS : Hid ((out ++ [x]) ++ (if true = true then xs.drop (k + 1) else Cp.put Cp.ltI (xs.drop (k + 1)) n) = Cp.put Cp.ltI xs n) := Lib.hid (by rw [if_pos rfl, List.append_assoc]; exact hI2)
            have hle : ¬ n < x := by omega
            clear hI2 hpd hdc hx hlx hxe
            go_wp2_with (at_builtin; go_must (refine wpList_append_own _ rfl _ _ 41 rfl w.heap.size 3 i0 (.int .i64 0) 1 8 Tryz.underlying41 hi0 hz0 hz1 hz2 rfl (by decide) _ out.length _ rfl (hown.alloc _) ⟨_, 0, none⟩ 1 1 [.int .i64 x] rfl rfl (Tx.cell_one_at _ _ (by first | rfl | simp) _ _) (by simp [Value.oneCell']) (by unfold maxLen; omega) (by omega) (by simp; omega) ?_); intro v' w2 hown2 hg2 hnil)
            have hb2 : Below w.heap.size w w2 := (hb.alloc hbs _).grown hg2 (by simp; omega) (fun j hj => (hown.lt j hj).1)
            go_roundw
            case rel => exact ⟨k + 1, out ++ [x], true, by omega, by go_num, rfl, HS, by simp; omega, by simpa using hown2, hb2⟩
            case measure => simp [intOf]; omega
          · rw [if_neg hxe] at hI2
            have HS : Hid ((out ++ [n, x]) ++ (if true = true then xs.drop (k + 1) else Cp.put Cp.ltI (xs.drop (k + 1)) n) = Cp.put Cp.ltI xs n) := Lib.hid (by rw [if_pos rfl, List.append_assoc]; exact hI2)
            have hgt : n < x := by omega
            clear hI2 hpd hdc hx hlx hxe
            go_wp2_with (first
              | (at_builtin; refine wpList_append_own _ rfl _ _ 41 rfl w.heap.size 3 i0 (.int .i64 0) 1 8 Tryz.underlying41 hi0 hz0 hz1 hz2 rfl (by decide) _ out.length _ rfl (hown.alloc _) ⟨_, 0, none⟩ 1 1 [.int .i64 n] rfl rfl (Tx.cell_one_at _ _ (by first | rfl | simp) _ _) (by simp [Value.oneCell']) (by unfold maxLen; omega) (by omega) (by simp; omega) ?_; intro v1 w1 hown1 hg1 hnil1; have hb1 : Below w.heap.size w w1 := (hb.alloc hbs _).grown hg1 (by simp; omega) (fun j hj => (hown.lt j hj).1); have d1 := cell_later hb1 d0w; have hb1s := hb1.size)
              | (at_builtin; go_must (refine wpList_append_own _ rfl _ _ 41 rfl w.heap.size 3 i0 (.int .i64 0) 1 8 Tryz.underlying41 hi0 hz0 hz1 hz2 rfl (by decide) _ (out.length + 1) _ rfl (hown1.alloc _) ⟨_, 0, none⟩ 1 1 [.int .i64 x] rfl rfl (Tx.cell_one_at _ _ (by first | rfl | simp) _ _) (by simp [Value.oneCell']) (by unfold maxLen; omega) (by omega) (by simp; omega) ?_); intro v' w2 hown2 hg2 hnil))
            have hb2 : Below w.heap.size w w2 := (hb1.alloc hb1s _).grown hg2 (by simp; omega) (fun j hj => (hown1.lt j hj).1)
            go_roundw
            case rel => exact ⟨k + 1, out ++ [n, x], true, by omega, by go_num, rfl, HS, by simp; omega, by simpa using hown2, hb2⟩
            case measure => simp [intOf]; omega
    · obtain rfl : k = xs.length := by omega
      have hI2 := hI.out
      clear hI
      rw [List.drop_length] at hI2
      cases dn with
      | true =>
        rw [if_pos rfl, List.append_nil] at hI2
        subst hI2
        go_wp2
        go_ret
        exact ⟨_, rfl, hown, hb⟩
      | false =>
        rw [if_neg (by decide)] at hI2
        have HS : Hid (out ++ [n] = Cp.put Cp.ltI xs n) := Lib.hid hI2
        clear hI2
        go_wp2_with (at_builtin; go_must (refine wpList_append_own _ rfl _ _ 41 rfl w.heap.size 3 i0 (.int .i64 0) 1 8 Tryz.underlying41 hi0 hz0 hz1 hz2 rfl (by decide) _ out.length _ rfl (hown.alloc _) ⟨_, 0, none⟩ 1 1 [.int .i64 n] rfl rfl (Tx.cell_one_at _ _ (by first | rfl | simp) _ _) (by simp [Value.oneCell']) (by unfold maxLen; omega) (by omega) (by simp; omega) ?_); intro v' w2 hown2 hg2 hnil)
        go_ret
        rw [← HS.out]
        exact ⟨_, rfl, by simpa using hown2, (hb.alloc hbs _).grown hg2 (by simp; omega) (fun j hj => (hown.lt j hj).1)⟩
end Go.Proofs.YtlinaeklhkfbcaaGreatDoor

/- The reference's Uses; two lists of ints compared: what the calls return. -/
namespace Go.Proofs.YtlinaeklhkfbcaaGreatDoor
open Go.RowKit
set_option maxRecDepth 100000

set_option maxHeartbeats 1600000 in
theorem r14_Uses_c (rs : List Rc.Rd) (a : Option Addr) (c : Nat) (id : Int) (w : World) (h : Rc.RdA w a c rs) (hn : rs.length ≤ 1000000) :
    Calls Tryz.prog 22 #[.slice a rs.length c, .int .i64 id] w fun e w' => ∃ v, e = .returned v ∧ w'.ownsRow w.heap.size 3 1 v (Ct.uses rs id).length ((Ct.uses rs id).map (Value.int .i64)) ∧ Below w.heap.size w w' := by
  have hcap := h.cap
  have hmx : maxLen = 9223372036854775807 := rfl
  have hmax := h.max
  obtain ⟨US, hUS⟩ : ∃ US : Nat → List Int, ∀ k, US k = (if id < 1 then [] else Cp.puts Cp.ltI (Ct.ids (rs.take k) id)) := ⟨fun k => _, fun k => rfl⟩
  have hfin : US rs.length = Ct.uses rs id := by rw [hUS, List.take_length]; rfl
  rw [← hfin]
  have hul : ∀ k, k ≤ rs.length → (US k).length ≤ 1000000 := by
    intro k hk
    rw [hUS]
    split
    · simp
    · have h1 := Ct.puts_len (Ct.ids (rs.take k) id)
      have h2 := Ct.ids_len (rs.take k) id
      rw [List.length_take] at h2
      omega
  have hno : ∀ k, id < 1 → US k = [] := fun k h9 => by rw [hUS, if_pos h9]
  have hs0 : US 0 = [] := by rw [hUS]; split <;> rfl
  have hstep : ∀ k r, rs[k]? = some r → ¬ id < 1 → US (k + 1) = if Ct.usesR r id = true then Cp.put Cp.ltI (US k) r.id else US k := by
    intro k r hr h9
    rw [hUS, hUS, if_neg h9, if_neg h9, Ct.ids_step id hr]
    split
    · rw [Ct.puts_snoc]
    · rw [List.append_nil]
  have HU := Lib.hid hul; clear hul
  have HN := Lib.hid hno; clear hno
  have HS := Lib.hid hstep; clear hstep
  clear hfin hUS
  have hs0' := Lib.hid hs0; clear hs0
  go_enter Tryz.func22, Tryz.ntmps22
  go_wp2
  go_loopw [5, 6] (fun v i wr => ∃ (k : Nat), k ≤ rs.length ∧ i = .int .i64 k ∧ wr.ownsRow w.heap.size 3 1 v (US k).length ((US k).map (Value.int .i64)) ∧ Below w.heap.size w wr) (fun _ i _ => rs.length - (intOf i).toNat)
  case atStart => exact ⟨0, Nat.zero_le _, rfl, by rw [hs0'.out]; exact World.ownsRow_lit (base := w.heap.size) (e := 3) (size := 1) w #[] 0 (by simp) (by unfold maxLen; omega) rfl, Tx.newb _ _⟩
  case round =>
    obtain ⟨k, hk, rfl, hown, hb⟩ := hrel
    have hbs := hb.size
    by_cases hlt : k < rs.length
    · obtain ⟨r, hr⟩ : ∃ r, rs[k]? = some r := ⟨_, List.getElem?_eq_getElem hlt⟩
      obtain ⟨b, o, fa, fc, rfl, hbl, c0, c1, c2, c3, c4, hF⟩ := h.get hr
      have c0w := c0
      replace c0 := cell_later hb c0
      replace c1 := cell_later hb c1
      replace c2 := cell_later hb c2
      replace c3 := cell_later hb c3
      replace c4 := cell_later hb c4
      by_cases hid : id < 1
      · have hx : id ≤ 0 := by omega
        have hown2 : wr.ownsRow w.heap.size 3 1 u5 (US (k + 1)).length ((US (k + 1)).map (Value.int .i64)) := by rw [HN.out (k + 1) (by omega), ← HN.out k (by omega)]; exact hown
        clear hown hr
        go_wp2
        go_roundw
        case rel => exact ⟨k + 1, by omega, by go_num, hown2, hb⟩
        case measure => simp [intOf]; omega
      · have hst := HS.out k r hr (by omega)
        have hid1 : 0 < id := by omega
        have HF := Lib.hid (hF.below hb)
        obtain ⟨oa, oc, rfl, hIA⟩ := Ct.IA.of_own hown rfl
        have hkl := HU.out k hk
        cases hq : (r.fields.any fun x => x.auth == id) with
        | true =>
          rw [if_pos (show Ct.usesR r id = true from hq)] at hst
          have HST := Lib.hid hst; clear hst hr
          have HQ := Lib.hid hq; clear hq
          go_wp2_with (first
            | (go_at_call 45; refine (r14_uses_c r.fields fa fc r.id r.ver r.kind r.lang id _ HF.out).mono ?_; rintro e w1 ⟨rfl, hb1⟩; rw [HQ.out]; have hb2 := Tx.step hb hb1; have d0 := cell_later hb2 c0w; have hIA1 := Br.FA.below hIA hb1)
            | (go_at_call 23; refine (r14_Inserted_c (US k) oa oc r.id _ hIA1 hkl).mono ?_; rintro e w2 ⟨v2, rfl, hown2, hb3⟩))
          go_roundw
          case rel => exact ⟨k + 1, by omega, by go_num, by rw [HST.out]; exact own_lower hown2 hb2.size, Tx.step hb2 hb3⟩
          case measure => simp [intOf]; omega
        | false =>
          rw [if_neg (by rw [show Ct.usesR r id = false from hq]; simp)] at hst
          have HST := Lib.hid hst; clear hst hr
          have HQ := Lib.hid hq; clear hq
          go_wp2_with (go_at_call 45; refine (r14_uses_c r.fields fa fc r.id r.ver r.kind r.lang id _ HF.out).mono ?_; rintro e w1 ⟨rfl, hb1⟩; rw [HQ.out]; have hown1 := own_below hown hb1)
          go_roundw
          case rel => exact ⟨k + 1, by omega, by go_num, by rw [HST.out]; exact hown1, Tx.step hb hb1⟩
          case measure => simp [intOf]; omega
    · obtain rfl : k = rs.length := by omega
      go_wp2
      go_ret
      exact ⟨_, rfl, hown, hb⟩

namespace Ct
theorem eq_take {xs ys : List Int} (hl : xs.length = ys.length) (h : ∀ j, j < xs.length → xs[j]? = ys[j]?) : xs = ys :=
  List.ext_getElem? fun j => by
    by_cases hj : j < xs.length
    · exact h j hj
    · rw [List.getElem?_eq_none (by omega), List.getElem?_eq_none (by omega)]
end Ct
set_option maxHeartbeats 1600000 in
theorem same_c (xs ys : List Int) (a b : Option Addr) (c d : Nat) (w : World) (hx : Ct.IA w a c xs) (hy : Ct.IA w b d ys) :
    Calls Tryz.prog 18 #[.slice a xs.length c, .slice b ys.length d] w fun e w' => e = .returned (.bool (decide (xs = ys))) ∧ Below w.heap.size w w' := by
  have hmx : maxLen = 9223372036854775807 := rfl
  have hcx := hx.cap
  have hcy := hy.cap
  have hmx1 := hx.max
  have hmy1 := hy.max
  by_cases hl : xs.length = ys.length
  · have hli : ((xs.length : Int) != (ys.length : Int)) = false := by simp; omega
    go_enter Tryz.func18, Tryz.ntmps18
    go_wp2
    go_loopw [5, 13] (fun _ i wr => ∃ k : Nat, k ≤ xs.length ∧ i = .int .i64 k ∧ Hid (∀ j, j < k → xs[j]? = ys[j]?) ∧ Below w.heap.size w wr) (fun _ i _ => xs.length - (intOf i).toNat)
    case atStart => exact ⟨0, Nat.zero_le _, rfl, Lib.hid (fun j hj => absurd hj (Nat.not_lt_zero j)), Below.refl _ _⟩
    case round =>
      obtain ⟨k, hk, rfl, hI, hb⟩ := hrel
      by_cases hlt : k < xs.length
      · obtain ⟨x, hx2⟩ : ∃ x, xs[k]? = some x := ⟨_, List.getElem?_eq_getElem hlt⟩
        obtain ⟨y, hy2⟩ : ∃ y, ys[k]? = some y := ⟨_, List.getElem?_eq_getElem (by omega)⟩
        obtain ⟨b1, o1, rfl, _, c1⟩ := hx.cell hx2
        obtain ⟨b2, o2, rfl, _, c2⟩ := hy.cell hy2
        replace c1 := cell_later hb c1
        replace c2 := cell_later hb c2
        by_cases he : x = y
        · subst he
          have hI2 : Hid (∀ j, j < k + 1 → xs[j]? = ys[j]?) := Lib.hid (fun j hj => by
            rcases Nat.lt_or_ge j k with h9 | h9
            · exact hI.out j h9
            · have : j = k := by omega
              subst this
              rw [hx2, hy2])
          clear hx2 hy2
          go_wp2
          go_quiet (fail)
          go_wp2
          go_roundw
          case rel => exact ⟨k + 1, by omega, by go_num, hI2, Tx.below_drewN hb _⟩
          case measure => simp [intOf]; omega
        · have hne : Hid (xs ≠ ys) := Lib.hid (fun e => he (by rw [e, hy2] at hx2; injection hx2 with h9; exact h9.symm))
          have hxy : (x != y) = true := by simpa using he
          clear hx2 hy2
          go_wp2
          go_quiet (fail)
          go_wp2
          go_ret
          exact ⟨Tx.retb (decide_eq_false hne.out).symm, Tx.below_drewN hb _⟩
      · obtain rfl : k = xs.length := by omega
        have he : Hid (xs = ys) := Lib.hid (Ct.eq_take hl hI.out)
        go_wp2
        go_ret
        exact ⟨Tx.retb (decide_eq_true he.out).symm, hb⟩
  · have hne : Hid (xs ≠ ys) := Lib.hid (fun e => hl (by rw [e]))
    have hli : ((xs.length : Int) != (ys.length : Int)) = true := by simp; omega
    clear hl
    go_enter Tryz.func18, Tryz.ntmps18
    go_wp2
    go_ret
    exact ⟨Tx.retb (decide_eq_false hne.out).symm, Below.refl _ _⟩
end Go.Proofs.YtlinaeklhkfbcaaGreatDoor
