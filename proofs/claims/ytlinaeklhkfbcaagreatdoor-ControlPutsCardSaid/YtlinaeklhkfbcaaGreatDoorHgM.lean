/- Plain: texts trimmed and cut; dates; the program's and the reference's ways through a name; no program stands in this file. -/
import Derived.Test.YtlinaeklhkfbcaaGreatDoorHdB
import Derived.Lib.SlTrimSet
import Derived.Test.YtlinaeklhkfbcaaGreatDoorMm
import Derived.Shelf.Strings.SlTrimAscii
import Derived.Lib.SplitLaws
import Derived.Test.YtlinaeklhkfbcaaGreatDoorTxV
import Derived.RegionTactic
import Derived.ChangeAlike
namespace Go.Proofs.YtlinaeklhkfbcaaGreatDoor
namespace Hd
open Go.Lib Rc

theorem dw_nil (p : UInt8 → Bool) : ∀ l : By, l.dropWhile p = [] ↔ ∀ x ∈ l, p x = true
  | [] => by simp
  | a :: l => by
    rw [List.dropWhile_cons]
    by_cases h : p a = true
    · rw [if_pos h, dw_nil p l]
      simp [h]
    · rw [if_neg h]
      simp [h]
theorem trim_nil (l cs : By) : trimS l cs = [] ↔ l.all (fun c => cs.contains c) = true := by
  unfold trimS trimLeftS trimRightS
  rw [dw_nil, List.all_eq_true]
  constructor
  · intro h
    have h2 : l.reverse.dropWhile (fun x => cs.contains x) = [] := by
      apply Classical.byContradiction
      intro hne
      have h4 := List.head_dropWhile_not (fun x => cs.contains x) hne
      have h3 := h _ (List.mem_reverse.2 (List.head_mem hne))
      rw [h4] at h3
      cases h3
    rw [dw_nil] at h2
    intro x hx
    exact h2 x (List.mem_reverse.2 hx)
  · intro h x hx
    exact h x (List.mem_reverse.1 ((List.dropWhile_sublist _).mem (List.mem_reverse.1 hx)))
theorem digs_has (c : UInt8) : ([48, 49, 50, 51, 52, 53, 54, 55, 56, 57] : By).contains c = digB c := by
  rw [Bool.eq_iff_iff, List.contains_iff_mem]
  unfold digB
  rw [decide_eq_true_iff]
  constructor
  · intro h
    simp only [List.mem_cons, List.not_mem_nil, or_false] at h
    rcases h with rfl | rfl | rfl | rfl | rfl | rfl | rfl | rfl | rfl | rfl <;> decide
  · rintro ⟨h1, h2⟩
    have h3 : c.toNat = (48 : UInt8).toNat ∨ c.toNat = (49 : UInt8).toNat ∨ c.toNat = (50 : UInt8).toNat ∨ c.toNat = (51 : UInt8).toNat ∨ c.toNat = (52 : UInt8).toNat ∨ c.toNat = (53 : UInt8).toNat ∨ c.toNat = (54 : UInt8).toNat ∨ c.toNat = (55 : UInt8).toNat ∨ c.toNat = (56 : UInt8).toNat ∨ c.toNat = (57 : UInt8).toNat := by
      show c.toNat = 48 ∨ c.toNat = 49 ∨ c.toNat = 50 ∨ c.toNat = 51 ∨ c.toNat = 52 ∨ c.toNat = 53 ∨ c.toNat = 54 ∨ c.toNat = 55 ∨ c.toNat = 56 ∨ c.toNat = 57
      omega
    rcases h3 with h | h | h | h | h | h | h | h | h | h <;> (rw [UInt8.toNat.inj h]; decide)
theorem trim_digs (l : By) : decide (trimS l [48, 49, 50, 51, 52, 53, 54, 55, 56, 57] = []) = l.all digB := by
  rw [Bool.eq_iff_iff, decide_eq_true_iff, trim_nil]
  have : (fun c => List.contains [48, 49, 50, 51, 52, 53, 54, 55, 56, 57] c) = digB := funext digs_has
  rw [this]
/-- Dates, by the program's cut. -/
theorem dates_cut (s : By) : dates s = ((cut s [45]).2.2 && dig4 (cut s [45]).1 && (decide ((cut s [45]).2.1 = []) || dig4 (cut s [45]).2.1)) := by
  unfold cut
  rcases (show index s [45] = -1 ∨ 0 ≤ index s [45] by have := index_ge s [45]; omega) with h | h
  · rw [dates_none h, if_neg (by omega)]
    rfl
  · obtain ⟨i, hi⟩ : ∃ i : Nat, index s [45] = i := ⟨(index s [45]).toNat, by omega⟩
    rw [dates_some hi, if_pos h, hi]
    rfl
theorem cut_len (s sep : By) : (cut s sep).1.length ≤ s.length ∧ (cut s sep).2.1.length ≤ s.length := by
  unfold cut
  split
  · exact ⟨by rw [List.length_take]; omega, by rw [List.length_drop]; omega⟩
  · exact ⟨Nat.le_refl _, by simp⟩
/-- Dates, by the reference's way: a length, and the bytes one by one. -/
def okAt (i : Nat) (c : UInt8) : Bool := if i = 4 then c == 45 else digB c
def okFrom : Nat → By → Bool
  | _, [] => true
  | i, c :: r => okAt i c && okFrom (i + 1) r
theorem okFrom_drop {s : By} {i : Nat} {c : UInt8} (h : s[i]? = some c) : okFrom i (s.drop i) = (okAt i c && okFrom (i + 1) (s.drop (i + 1))) := by
  have hi : i < s.length := (List.getElem?_eq_some_iff.1 h).1
  rw [List.drop_eq_getElem_cons hi, (List.getElem?_eq_some_iff.1 h).2]
  rfl
theorem dates_ref (s : By) : dates s = (decide (s.length = 5 ∨ s.length = 9) && okFrom 0 s) := by
  by_cases h5 : s.length = 5
  · match s, h5 with
    | [a, b, c, d, e], _ => simp [dates, okFrom, okAt, Bool.and_assoc]
  · by_cases h9 : s.length = 9
    · match s, h9 with
      | [a, b, c, d, e, f, g, h, i], _ => simp [dates, okFrom, okAt, Bool.and_assoc]
    · have : decide (s.length = 5 ∨ s.length = 9) = false := by simp [h5, h9]
      rw [this, Bool.false_and, Bool.eq_false_iff]
      intro hd
      match s, hd with
      | [_, _, _, _, _], _ => simp at h5
      | [_, _, _, _, _, _, _, _, _], _ => simp at h9
/-- The reference's split: a piece from a place on. -/
theorem split_at {s sep : By} (hs : sep ≠ []) : split s sep ≠ [] ∧ ∀ p ∈ split s sep, p.length ≤ s.length := by
  refine ⟨split_ne s sep, fun p hp => ?_⟩
  have : ∀ (n : Nat) (s : By), s.length ≤ n → ∀ p ∈ split s sep, p.length ≤ s.length := by
    intro n
    induction n with
    | zero =>
      intro s hn p hp
      have : s = [] := List.eq_nil_of_length_eq_zero (by omega)
      subst this
      have hx : index [] sep = -1 := by
        rcases index_spec [] sep with ⟨h, _⟩ | ⟨k, _, _, h3, _⟩
        · exact h
        · exfalso
          cases sep with
          | nil => exact hs rfl
          | cons a t => simp [occAt] at h3
      rw [split_miss hx, List.mem_singleton] at hp
      rw [hp]
      exact Nat.le_refl _
    | succ n ih =>
      intro s hn p hp
      rcases (show index s sep = -1 ∨ 0 ≤ index s sep by have := index_ge s sep; omega) with h | h
      · rw [split_miss h, List.mem_singleton] at hp
        rw [hp]
        exact Nat.le_refl _
      · obtain ⟨i, hi⟩ : ∃ i : Nat, index s sep = i := ⟨(index s sep).toNat, by omega⟩
        have hl := congrArg List.length (index_at hi)
        simp only [List.length_append] at hl
        have hsl : 0 < sep.length := List.length_pos_iff.2 hs
        rw [split_hit hs hi, List.mem_cons] at hp
        rcases hp with hp | hp
        · rw [hp, List.length_take]; omega
        · have := ih (s.drop (i + sep.length)) (by rw [List.length_drop]; omega) p hp
          rw [List.length_drop] at this
          omega
  exact this s.length s (Nat.le_refl _) p hp
theorem occ_drop (s sep : By) (a j : Nat) : occAt (s.drop a) sep j = occAt s sep (a + j) := by
  unfold occAt
  rw [List.drop_drop]
/-- The next separator stands at a place. -/
theorem split_found {s sep : By} {a i : Nat} (hs : sep ≠ []) (hle : a ≤ i) (hi : i ≤ s.length) (hno : ∀ j, a ≤ j → j < i → occAt s sep j = false) (ho : occAt s sep i = true) :
    split (s.drop a) sep = (s.drop a).take (i - a) :: split (s.drop (i + sep.length)) sep := by
  have h1 : index (s.drop a) sep = ((i - a : Nat) : Int) := index_first (by rw [List.length_drop]; omega) (by rw [occ_drop, show a + (i - a) = i by omega]; exact ho) (fun j hj => by rw [occ_drop]; exact hno (a + j) (by omega) (by omega))
  rw [split_hit hs h1, List.drop_drop]
  congr 3
  omega
theorem split_last {s sep : By} {a i : Nat} (hs : sep ≠ []) (hno : ∀ j, a ≤ j → j < i → occAt s sep j = false) (hi : s.length < i + sep.length) : split (s.drop a) sep = [s.drop a] := by
  refine split_miss (index_none fun j _ => ?_)
  rw [occ_drop]
  rcases Nat.lt_or_ge (a + j) i with h | h
  · exact hno (a + j) (by omega) h
  · rw [Bool.eq_false_iff]
    intro ho
    unfold occAt at ho
    rw [List.isPrefixOf_iff_prefix] at ho
    have h7 := ho.length_le
    rw [List.length_drop] at h7
    have h8 := List.length_pos_iff.2 hs
    omega
/-- Does the separator stand at a place: the reference's test. -/
theorem occ_test (s sep : By) (i : Nat) : occAt s sep i = ((s.drop i).take sep.length == sep) := by
  unfold occAt
  rw [Bool.eq_iff_iff, List.isPrefixOf_iff_prefix, beq_iff_eq, List.prefix_iff_eq_take]
  exact eq_comm
end Hd
end Go.Proofs.YtlinaeklhkfbcaaGreatDoor

/- The program's digits, dates and Parts of headings: what the calls return. -/
namespace Go.Proofs.YtlinaeklhkfbcaaGreatDoor
open Go.RowKit
set_option maxRecDepth 100000

theorem digits_ascii : ∀ (j : Nat) b, (⟨#[48, 49, 50, 51, 52, 53, 54, 55, 56, 57]⟩ : ByteArray).data.toList[j]? = some b → b.toNat < 128 := ascii_of_all (by decide)
set_option maxHeartbeats 400000 in
theorem heading_digits_c (s : ByteArray) (w : World) (hs : s.size ≤ 1000000000) :
    Calls Tryz.prog 95 #[.string s] w fun e w' => e = .returned (.bool (Hd.dig4 s.data.toList)) ∧ Below w.heap.size w w' := by
  have hsz := Lib.size_eq s
  by_cases h4 : s.size = 4
  · obtain ⟨r, hr⟩ : ∃ r, (⟨(Lib.trimS s.data.toList [48, 49, 50, 51, 52, 53, 54, 55, 56, 57]).toArray⟩ : ByteArray) = r := ⟨_, rfl⟩
    have he : r.toList.isEmpty = s.data.toList.all Hd.digB := by
      rw [← Hd.trim_digs, ← hr, Lib.toList_data]
      show (Lib.trimS s.data.toList [48, 49, 50, 51, 52, 53, 54, 55, 56, 57]).isEmpty = _
      cases Lib.trimS s.data.toList [48, 49, 50, 51, 52, 53, 54, 55, 56, 57] <;> simp
    have hd : Hid (Hd.dig4 s.data.toList = r.toList.isEmpty) := Lib.hid (by
      unfold Hd.dig4
      rw [he, ← hsz, h4]
      rfl)
    have h5 : ((s.size : Int) == 4) = true := by simp [h4]
    have HR := Lib.hid hr
    clear hr he h4 hsz
    go_enter Tryz.func95, Tryz.ntmps95
    go_wp2_with (go_at_call 113; refine (Any.strings_Trim_laid Tryz.lays160 (by kernel_rfl) s ⟨#[48, 49, 50, 51, 52, 53, 54, 55, 56, 57]⟩ _ (by omega) (by decide) digits_ascii).mono ?_; rintro e w1 ⟨rfl, hb1⟩; rw [show (⟨(Lib.trimS s.data.toList (⟨#[48, 49, 50, 51, 52, 53, 54, 55, 56, 57]⟩ : ByteArray).data.toList).toArray⟩ : ByteArray) = r from HR.out])
    go_ret
    exact ⟨Tx.retb hd.out.symm, hb1⟩
  · have hd : Hid (Hd.dig4 s.data.toList = false) := Lib.hid (by
      unfold Hd.dig4
      rw [decide_eq_false (by omega)]
      rfl)
    have h5 : ((s.size : Int) == 4) = false := by simp; omega
    clear h4 hsz
    go_enter Tryz.func95, Tryz.ntmps95
    go_wp2
    go_ret
    exact ⟨Tx.retb hd.out.symm, Below.refl _ _⟩

set_option maxHeartbeats 800000 in
theorem heading_dates_c (s : ByteArray) (w : World) (hs : s.size ≤ 1000000000) (hG : G w) :
    Calls Tryz.prog 65 #[.string s] w fun e w' => e = .returned (.bool (Hd.dates s.data.toList)) ∧ Below w.heap.size w w' := by
  obtain ⟨m, hm⟩ := hG.m
  obtain ⟨p, hp⟩ : ∃ p, (⟨(Lib.cut s.data.toList [45]).1.toArray⟩ : ByteArray) = p := ⟨_, rfl⟩
  obtain ⟨q, hq⟩ : ∃ q, (⟨(Lib.cut s.data.toList [45]).2.1.toArray⟩ : ByteArray) = q := ⟨_, rfl⟩
  obtain ⟨b, hbb⟩ : ∃ b, (Lib.cut s.data.toList [45]).2.2 = b := ⟨_, rfl⟩
  have hd := Hd.dates_cut s.data.toList
  have hl := Hd.cut_len s.data.toList [45]
  have h1 : (Lib.cut s.data.toList [45]).1 = p.data.toList := by rw [← hp]
  have h2 : (Lib.cut s.data.toList [45]).2.1 = q.data.toList := by rw [← hq]
  rw [hbb, h1, h2] at hd
  rw [h1, h2, ← Lib.size_eq, ← Lib.size_eq, ← Lib.size_eq] at hl
  have hpl : p.size ≤ 1000000000 := by omega
  have hql : q.size ≤ 1000000000 := by omega
  have hqe : q.toList.isEmpty = decide (q.data.toList = []) := by
    rw [Lib.toList_data]
    cases q.data.toList <;> simp
  clear h1 h2 hl
  have HP := Lib.hid hp; clear hp
  have HQ := Lib.hid hq; clear hq
  have HB := Lib.hid hbb; clear hbb
  obtain ⟨d1, hd1⟩ : ∃ d, Hd.dig4 p.data.toList = d := ⟨_, rfl⟩
  obtain ⟨d2, hd2⟩ : ∃ d, Hd.dig4 q.data.toList = d := ⟨_, rfl⟩
  rw [hd1, hd2] at hd
  have H1 := Lib.hid hd1; clear hd1
  have H2 := Lib.hid hd2; clear hd2
  have HD := Lib.hid hd; clear hd
  have t1 : True := trivial
  cases b with
  | false =>
    go_enter Tryz.func65, Tryz.ntmps65
    go_wp2_with (go_at_call 94; refine (Tryz.strings_Cut s ⟨#[45]⟩ m _ (by omega) hm).mono ?_; rintro e w1 ⟨rfl, n, rfl⟩; rw [show (⟨(Lib.cut s.data.toList (⟨#[45]⟩ : ByteArray).data.toList).1.toArray⟩ : ByteArray) = p from HP.out, show (⟨(Lib.cut s.data.toList (⟨#[45]⟩ : ByteArray).data.toList).2.1.toArray⟩ : ByteArray) = q from HQ.out, show (Lib.cut s.data.toList (⟨#[45]⟩ : ByteArray).data.toList).2.2 = false from HB.out])
    go_ret
    exact ⟨Tx.retb (by rw [HD.out]; rfl), Tx.below_drewN (Below.refl _ _) _⟩
  | true =>
    cases d1 with
    | false =>
      go_enter Tryz.func65, Tryz.ntmps65
      go_wp2_with (first
        | (go_at_call 94; refine (Tryz.strings_Cut s ⟨#[45]⟩ m _ (by omega) hm).mono ?_; rintro e w1 ⟨rfl, n, rfl⟩; rw [show (⟨(Lib.cut s.data.toList (⟨#[45]⟩ : ByteArray).data.toList).1.toArray⟩ : ByteArray) = p from HP.out, show (⟨(Lib.cut s.data.toList (⟨#[45]⟩ : ByteArray).data.toList).2.1.toArray⟩ : ByteArray) = q from HQ.out, show (Lib.cut s.data.toList (⟨#[45]⟩ : ByteArray).data.toList).2.2 = true from HB.out])
        | (go_at_call 95; refine (heading_digits_c p _ hpl).mono ?_; rintro e w1 ⟨rfl, hb1⟩; rw [H1.out]))
      go_ret
      exact ⟨Tx.retb (by rw [HD.out]; rfl), Tx.step (Tx.below_drewN (Below.refl _ _) _) hb1⟩
    | true =>
      cases hqq : decide (q.data.toList = []) with
      | true =>
        rw [hqq] at hqe
        have HD2 : Hid (Hd.dates s.data.toList = true) := Lib.hid (by rw [HD.out, hqq]; rfl)
        clear hqq HD
        go_enter Tryz.func65, Tryz.ntmps65
        go_wp2_with (first
          | (go_at_call 94; refine (Tryz.strings_Cut s ⟨#[45]⟩ m _ (by omega) hm).mono ?_; rintro e w1 ⟨rfl, n, rfl⟩; rw [show (⟨(Lib.cut s.data.toList (⟨#[45]⟩ : ByteArray).data.toList).1.toArray⟩ : ByteArray) = p from HP.out, show (⟨(Lib.cut s.data.toList (⟨#[45]⟩ : ByteArray).data.toList).2.1.toArray⟩ : ByteArray) = q from HQ.out, show (Lib.cut s.data.toList (⟨#[45]⟩ : ByteArray).data.toList).2.2 = true from HB.out])
          | (go_at_call 95; refine (heading_digits_c p _ hpl).mono ?_; rintro e w1 ⟨rfl, hb1⟩; rw [H1.out]))
        go_ret
        exact ⟨Tx.retb HD2.out.symm, Tx.step (Tx.below_drewN (Below.refl _ _) _) hb1⟩
      | false =>
        rw [hqq] at hqe
        have HD2 : Hid (Hd.dates s.data.toList = d2) := Lib.hid (by rw [HD.out, hqq]; cases d2 <;> rfl)
        clear hqq HD
        go_enter Tryz.func65, Tryz.ntmps65
        go_wp2_with (first
          | (go_at_call 94; refine (Tryz.strings_Cut s ⟨#[45]⟩ m _ (by omega) hm).mono ?_; rintro e w1 ⟨rfl, n, rfl⟩; rw [show (⟨(Lib.cut s.data.toList (⟨#[45]⟩ : ByteArray).data.toList).1.toArray⟩ : ByteArray) = p from HP.out, show (⟨(Lib.cut s.data.toList (⟨#[45]⟩ : ByteArray).data.toList).2.1.toArray⟩ : ByteArray) = q from HQ.out, show (Lib.cut s.data.toList (⟨#[45]⟩ : ByteArray).data.toList).2.2 = true from HB.out])
          | (go_at_call 95; have _t := t1; clear t1 _t; refine (heading_digits_c p _ hpl).mono ?_; rintro e w1 ⟨rfl, hb1⟩; rw [H1.out])
          | (go_at_call 95; refine (heading_digits_c q _ hql).mono ?_; rintro e w2 ⟨rfl, hb2⟩; rw [H2.out]))
        go_ret
        exact ⟨Tx.retb HD2.out.symm, Tx.step (Tx.step (Tx.below_drewN (Below.refl _ _) _) hb1) hb2⟩

namespace Hd
theorem clean_take {xs : List ByteArray} {k : Nat} {x : ByteArray} (h : xs[k]? = some x) (l : List Rc.By) (hl : l = (((xs.take k).map (·.data.toList)).map Tx.clean).filter fun p => p != []) :
    (((xs.take (k + 1)).map (·.data.toList)).map Tx.clean).filter (fun p => p != []) = if Tx.clean x.data.toList = [] then l else l ++ [Tx.clean x.data.toList] := by
  rw [List.take_add_one, h, List.map_append, List.map_append, List.filter_append, ← hl]
  by_cases hc : Tx.clean x.data.toList = []
  · simp [hc]
  · simp [hc]
end Hd
theorem Split_c (s sep : ByteArray) (w : World) (hs : s.size ≤ 1000000000) (h1 : 1 ≤ sep.size) (hG : G w) :
    Calls Tryz.prog 61 #[.string s, .string sep] w fun e w' => ∃ a c xs, e = .returned (.slice a xs.length c) ∧ xs.map (·.data.toList) = Lib.split s.data.toList sep.data.toList ∧ SLA w' a c xs ∧ Below w.heap.size w w' := by
  obtain ⟨m, hm⟩ := hG.m
  refine (Tryz.strings_Split s sep m w (by omega) hm h1).mono fun e w' ⟨he, hw⟩ => ?_
  have hd := Lib.splitB_data sep 0 (Lib.countB s sep) s
  have hl : (Lib.splitB sep 0 (Lib.countB s sep) s).length = Lib.countB s sep + 1 := Lib.splitB_all sep h1 0 _ s rfl
  have hc := Lib.countB_le sep h1 s.size s (Nat.le_refl _)
  refine ⟨_, _, Lib.splitB sep 0 (Lib.countB s sep) s, by rw [hl]; exact he, hd, ?_, by rw [hw]; exact Tx.newb _ _⟩
  subst hw
  refine ⟨by omega, ?_, w.heap.size, 0, fun _ => ⟨rfl, by simp⟩, fun j x hx => ?_⟩
  · unfold maxLen
    omega
  · rw [Nat.zero_add, cell_of_row _ w.heap.size j _ _ (0, 0) (heap_alloc_new w _), List.getElem?_toArray, List.getElem?_map, hx]
    rfl
end Go.Proofs.YtlinaeklhkfbcaaGreatDoor

/- The program's Parts of a heading: what the call returns. -/
namespace Go.Proofs.YtlinaeklhkfbcaaGreatDoor
open Go.RowKit
set_option maxRecDepth 100000

theorem Hd.empty_eq (l : List UInt8) : (⟨l.toArray⟩ : ByteArray).toList.isEmpty = decide (l = []) := by
  rw [Lib.toList_data]
  cases l <;> simp
set_option maxHeartbeats 1600000 in
theorem heading_Parts_c (s : ByteArray) (w : World) (hs : s.size ≤ 1000000) (hv : Tx.valid s.data.toList = true) (hG : G w) :
    Calls Tryz.prog 31 #[.string s] w fun e w' => ∃ a c xs, e = .returned (.slice a xs.length c) ∧ xs.map (·.data.toList) = Hd.parts s.data.toList ∧ SLA w' a c xs ∧ Below w.heap.size w w' := by
  obtain ⟨i0, hi0, hz0, hz1, hz2⟩ := info_parts info_str
  have HSV := Lib.hid (Hd.split_valid (sep := [45, 45]) (by simp) (by decide) s.data.toList.length s.data.toList (Nat.le_refl _) hv)
  have HCN := Lib.hid (Hd.split_count (sep := [45, 45]) (by simp) s.data.toList.length s.data.toList (Nat.le_refl _))
  have HV := Lib.hid hv; clear hv
  go_enter Tryz.func31, Tryz.ntmps31
  go_wp2_with (go_at_call 61; refine (Split_c s ⟨#[45, 45]⟩ _ (by omega) (by decide) hG).mono ?_; rintro e w1 ⟨a, c, xs, rfl, hxs, hA, hb1⟩; have hcap := hA.cap; have hmx := hA.max; have HX := Lib.hid hxs; clear hxs)
  have hml : maxLen = 9223372036854775807 := rfl
  have hxl : xs.length ≤ s.size + 1 := by
    have h1 := HCN.out
    rw [← show xs.map (·.data.toList) = Lib.split s.data.toList [45, 45] from HX.out, List.length_map, ← Lib.size_eq] at h1
    exact h1
  have hb1s := hb1.size
  go_loopw [3, 10] (fun v i wr => ∃ (k : Nat) (L : List ByteArray), k ≤ xs.length ∧ i = .int .i64 k ∧ Hid (L.map (·.data.toList) = (((xs.take k).map (·.data.toList)).map Tx.clean).filter fun p => p != []) ∧ L.length ≤ k ∧ wr.ownsRow w1.heap.size 9 1 v L.length (L.map Value.string) ∧ Below w1.heap.size w1 wr) (fun _ i _ => xs.length - (intOf i).toNat)
  case atStart => exact ⟨0, [], Nat.zero_le _, rfl, Lib.hid rfl, Nat.le_refl _, World.ownsRow_nil _ _ _ _, Below.refl _ _⟩
  case round =>
    obtain ⟨k, L, hk, rfl, hL, hLk, hown, hb⟩ := hrel
    have hbs := hb.size
    by_cases hlt : k < xs.length
    · obtain ⟨x, hx⟩ : ∃ x, xs[k]? = some x := ⟨_, List.getElem?_eq_getElem hlt⟩
      obtain ⟨b, o, rfl, hbl, c0⟩ := hA.get hx
      replace c0 := cell_later hb c0
      have hxv := HSV.out x.data.toList (by rw [← show xs.map (·.data.toList) = Lib.split s.data.toList [45, 45] from HX.out]; exact List.mem_map.2 ⟨x, List.mem_of_getElem? hx, rfl⟩)
      rw [← Lib.size_eq, ← Lib.size_eq] at hxv
      obtain ⟨hxv, hxs⟩ := hxv
      have hct := Hd.clean_take hx _ hL.out
      obtain ⟨y, hy⟩ : ∃ y, (⟨(Tx.clean x.data.toList).toArray⟩ : ByteArray) = y := ⟨_, rfl⟩
      have hyd : Tx.clean x.data.toList = y.data.toList := by rw [← hy]
      have hye := Hd.empty_eq (Tx.clean x.data.toList)
      rw [hy] at hye
      have HY := Lib.hid hy; clear hy
      have HXV := Lib.hid hxv; clear hxv hx
      by_cases hc : Tx.clean x.data.toList = []
      · rw [if_pos hc] at hct
        have HT := Lib.hid hct; clear hct
        rw [decide_eq_true hc] at hye
        clear hc hyd
        go_wp2_with (go_at_call 63; refine (text_Clean_c x _ (by omega) HXV.out).mono ?_; rintro e w2 ⟨rfl, hb2⟩; rw [HY.out])
        have hown2 := own_below hown hb2
        go_roundw
        case rel => exact ⟨k + 1, L, by omega, by go_num, Lib.hid (by rw [HT.out]), by omega, hown2, Tx.step hb hb2⟩
        case measure => simp [intOf]; omega
      · rw [if_neg hc, hyd] at hct
        have HT := Lib.hid hct; clear hct
        rw [decide_eq_false hc] at hye
        clear hc hyd
        go_wp2_with (first
          | (go_at_call 63; refine (text_Clean_c x _ (by omega) HXV.out).mono ?_; rintro e w2 ⟨rfl, hb2⟩; rw [HY.out]; have hown2 := own_below hown hb2; have hb3 := Tx.step hb hb2; have hb3s := hb3.size)
          | (at_builtin; go_must (refine wpList_append_own _ rfl _ _ 54 rfl w1.heap.size 9 i0 (.string ⟨#[]⟩) 1 16 Tryz.underlying54 hi0 hz0 hz1 hz2 rfl (by decide) _ L.length _ rfl (hown2.alloc _) ⟨_, 0, none⟩ 1 1 [.string y] rfl rfl (Tx.cell_one_at _ _ (by first | rfl | simp) _ _) (by simp [Value.oneCell']) (by unfold maxLen; omega) (by omega) (by simp; omega) ?_); intro v' w3 hown3 hg3 hnil3))
        have hb4 : Below w1.heap.size w1 w3 := (hb3.alloc hb3.size _).grown hg3 (by simp; omega) (fun j hj => (hown2.lt j hj).1)
        go_roundw
        case rel => exact ⟨k + 1, L ++ [y], by omega, by go_num, Lib.hid (by rw [HT.out, List.map_append]; rfl), by simp; omega, by simpa using hown3, hb4⟩
        case measure => simp [intOf]; omega
    · obtain rfl : k = xs.length := by omega
      have hL2 := hL.out
      rw [List.take_length] at hL2
      have hL3 : Hid (L.map (·.data.toList) = Hd.parts s.data.toList) := Lib.hid (by
        rw [hL2]
        unfold Hd.parts
        rw [← show xs.map (·.data.toList) = Lib.split s.data.toList [45, 45] from HX.out])
      clear hL2 hL
      obtain ⟨va, vc, rfl, hSA⟩ := SLA.of_own hown rfl
      go_wp2
      go_ret
      exact ⟨va, vc, L, rfl, hL3.out, hSA, Tx.step hb1 hb⟩
end Go.Proofs.YtlinaeklhkfbcaaGreatDoor

/- The program's Name: what the call returns for a text. -/
namespace Go.Proofs.YtlinaeklhkfbcaaGreatDoor
open Go.RowKit
set_option maxRecDepth 100000

namespace Ct
def nmV : Option (Rc.By × Rc.By × Rc.By) → Value
  | some x => .agg #[.string ⟨x.1.toArray⟩, .string ⟨x.2.1.toArray⟩, .string ⟨x.2.2.toArray⟩]
  | none => .agg #[.string ⟨#[]⟩, .string ⟨#[]⟩, .string ⟨#[]⟩]
def nmE : Option (Rc.By × Rc.By × Rc.By) → Int
  | some _ => 0
  | none => 3
theorem nm_some (a b c : ByteArray) : nmV (some (a.data.toList, b.data.toList, c.data.toList)) = .agg #[.string a, .string b, .string c] := rfl
theorem wrong_nil {p : Rc.By} (h : p = []) : wrongPart p = true := by unfold wrongPart; simp [h]
theorem wrong_clean {p : Rc.By} (h : Tx.clean p ≠ p) : wrongPart p = true := by unfold wrongPart; simp [h]
theorem wrong_comma {p : Rc.By} (h : Lib.contains p [44] = true) : wrongPart p = true := by unfold wrongPart; simp [h]
theorem wrong_not {p : Rc.By} (h1 : p ≠ []) (h2 : Tx.clean p = p) (h3 : Lib.contains p [44] = false) : wrongPart p = false := by unfold wrongPart; simp [h1, h2, h3]
theorem all_fine {xs : List ByteArray} (h : ∀ p ∈ xs, wrongPart p.data.toList = false) : (xs.map (·.data.toList)).any wrongPart = false := by
  rw [List.any_eq_false]
  intro q hq
  obtain ⟨p, hp, rfl⟩ := List.mem_map.1 hq
  rw [h p hp]
  simp
theorem all_next {α : Type} {xs : List α} {k : Nat} {x : α} {P : α → Prop} (hx : xs[k]? = some x) (hP : P x) (h : ∀ y ∈ xs.take k, P y) : ∀ y ∈ xs.take (k + 1), P y := by
  intro y hy
  rw [List.take_add_one, hx] at hy
  rcases List.mem_append.1 hy with h9 | h9
  · exact h y h9
  · simp at h9
    rw [h9]
    exact hP
end Ct
theorem Tx.set3 {B g : Nat} {w wr : World} (h : Below B w wr) (hg : B ≤ g) (v0 v1 v2 : Value) : Below B w (((wr.setCell ⟨g, 0, none⟩ v0).setCell ⟨g, 1, none⟩ v1).setCell ⟨g, 2, none⟩ v2) :=
  ((h.setCell hg _).setCell hg _).setCell hg _
theorem Tx.keep {w w' : World} {g : Nat} {o c : Obj} (h : w.heap[g]? = some o) (hb : Below (w.alloc c).heap.size (w.alloc c) w') : w'.heap[g]? = some o :=
  Tx.blk_later ((Below.heap_alloc w c g (Array.getElem?_eq_some_iff.1 h).1).trans h) hb
theorem Tx.fresh {w w' : World} {c : Obj} (hb : Below (w.alloc c).heap.size (w.alloc c) w') : w'.heap[w.heap.size]? = some c := Tx.blk_later (heap_alloc_new w c) hb

set_option maxHeartbeats 3200000 in
theorem heading_Name_c (s : ByteArray) (w : World) (hs : s.size ≤ 1000000) (hv : Tx.valid s.data.toList = true) (hG : G w) :
    Calls Tryz.prog 30 #[.string s] w fun e w' => e = .returned (.tuple #[Ct.nmV (Ct.name s.data.toList), .int .i64 (Ct.nmE (Ct.name s.data.toList))]) ∧ Below w.heap.size w w' := by
  have HSV := Lib.hid (Hd.split_valid (sep := [44, 32]) (by simp) (by decide) s.data.toList.length s.data.toList (Nat.le_refl _) hv)
  have HSN := Lib.hid (Hd.split_ne s.data.toList [44, 32])
  have HV := Lib.hid hv; clear hv
  obtain ⟨W, hW⟩ : ∃ W, w.alloc (.cells #[.string ⟨#[]⟩, .string ⟨#[]⟩, .string ⟨#[]⟩] 60) = W := ⟨_, rfl⟩
  have hB : Below w.heap.size w W := by rw [← hW]; exact Tx.newb _ _
  have hblk : W.heap[w.heap.size]? = some (.cells #[.string ⟨#[]⟩, .string ⟨#[]⟩, .string ⟨#[]⟩] 60 (0, 0)) := by rw [← hW]; exact heap_alloc_new _ _
  have HW := Lib.hid hW; clear hW
  have hml : maxLen = 9223372036854775807 := rfl
  go_enter Tryz.func30, Tryz.ntmps30
  go_upto_region 2 with (go_at_call 61; rw [HW.out]; refine (Split_c s ⟨#[44, 32]⟩ W (by omega) (by decide) (hG.below hB)).mono ?_; rintro e w1 ⟨a, c, xs, rfl, hxs, hA, hb1⟩; have hcap := hA.cap; have hmx := hA.max; have hblk1 := Tx.blk_later hblk hb1)
  have hBb := Tx.step hB hb1
  by_cases h3 : 3 < xs.length
  · have HN : Hid (Ct.name s.data.toList = none) := Lib.hid (Ct.name_long (by rw [← show xs.map (·.data.toList) = Lib.split s.data.toList [44, 32] from hxs, List.length_map]; exact h3))
    have g3 : (3 : Int) < (xs.length : Int) := by omega
    clear hxs
    go_wp2_with (go_at_call 62; refine (text_Valid_c s _ (by omega) (hG.below hBb)).mono ?_; rintro e w2 ⟨rfl, hb2⟩; rw [HV.out]; obtain ⟨hc, hf, hlt⟩ := Tx.blk (Tx.blk_later hblk1 hb2))
    refine bodyPost_ret (v := .tuple #[Ct.nmV none, .int .i64 3]) (by simp [results, Tryz.results30, go_sem, hc, Ct.nmV]) rfl ⟨by rw [HN.out]; rfl, Tx.set3 (Tx.step hBb hb2) (Nat.le_refl _) _ _ _⟩
  · have g3 : (xs.length : Int) ≤ 3 := by omega
    have HX := Lib.hid hxs; clear hxs h3
    go_wp2_with (go_at_call 62; refine (text_Valid_c s _ (by omega) (hG.below hBb)).mono ?_; rintro e w2 ⟨rfl, hb2⟩; rw [HV.out])
    have hblk2 := Tx.blk_later hblk1 hb2
    have hB2 := Tx.step hBb hb2
    have hA2 := hA.below hb2
    clear hb1 hb2 hblk hblk1 hA
    go_loopw [21] (fun i wr => ∃ k : Nat, k ≤ xs.length ∧ i = .int .i64 k ∧ Hid (∀ p ∈ xs.take k, Ct.wrongPart p.data.toList = false) ∧ Below w2.heap.size w2 wr) (fun i _ => xs.length - (intOf i).toNat)
    case atStart => exact ⟨0, Nat.zero_le _, rfl, Lib.hid (by simp), Below.refl _ _⟩
    case round =>
      obtain ⟨k, hk, rfl, hI, hb⟩ := hrel
      have hBr := Tx.step hB2 hb
      have hblkr := Tx.blk_later hblk2 hb
      have hAr := hA2.below hb
      by_cases hlt : k < xs.length
      · obtain ⟨x, hx⟩ : ∃ x, xs[k]? = some x := ⟨_, List.getElem?_eq_getElem hlt⟩
        obtain ⟨b, o, rfl, hbl, c0⟩ := hAr.get hx
        have hxm : x.data.toList ∈ Lib.split s.data.toList [44, 32] := by rw [← show xs.map (·.data.toList) = Lib.split s.data.toList [44, 32] from HX.out]; exact List.mem_map.2 ⟨x, List.mem_of_getElem? hx, rfl⟩
        obtain ⟨hxv, hxs⟩ := HSV.out x.data.toList hxm
        rw [← Lib.size_eq, ← Lib.size_eq] at hxs
        have HXV := Lib.hid hxv; clear hxv
        obtain ⟨y, hy⟩ : ∃ y, (⟨(Tx.clean x.data.toList).toArray⟩ : ByteArray) = y := ⟨_, rfl⟩
        have hyx : (y.toList == x.toList) = decide (Tx.clean x.data.toList = x.data.toList) := by
          rw [← hy, Lib.toList_data, Lib.toList_data, Bool.eq_iff_iff, beq_iff_eq, decide_eq_true_iff]
        have HY := Lib.hid hy; clear hy
        obtain ⟨m, hm⟩ := (hG.below hBr).m
        by_cases h1 : x.data.toList = []
        · have HN : Hid (Ct.name s.data.toList = none) := Lib.hid (Ct.name_wrong HV.out hxm (Ct.wrong_nil h1))
          have e1 : x.toList.isEmpty = true := by rw [Lib.toList_data, h1]; rfl
          obtain ⟨hc, hf, hlt2⟩ := Tx.blk hblkr
          clear h1 hxm hx hyx hm
          go_wp2
          refine bodyPost_ret (v := .tuple #[Ct.nmV none, .int .i64 3]) (by simp [results, Tryz.results30, go_sem, hc, Ct.nmV]) rfl ⟨by rw [HN.out]; rfl, Tx.set3 hBr (Nat.le_refl _) _ _ _⟩
        · have e1 : x.toList.isEmpty = false := by rw [Lib.toList_data]; simpa using h1
          by_cases h2 : Tx.clean x.data.toList = x.data.toList
          · rw [decide_eq_true h2] at hyx
            cases h4 : Lib.contains x.data.toList [44] with
            | true =>
              have HN : Hid (Ct.name s.data.toList = none) := Lib.hid (Ct.name_wrong HV.out hxm (Ct.wrong_comma h4))
              have H4 := Lib.hid h4
              clear h1 h2 h4 hxm hx
              go_wp2_with (first
                | (go_at_call 63; refine (text_Clean_c x _ (by omega) HXV.out).mono ?_; rintro e w3 ⟨rfl, hb3⟩; rw [HY.out]; have hm3 := cell_later hb3 hm; obtain ⟨hc, hf, hlt2⟩ := Tx.blk (Tx.blk_later hblkr hb3))
                | (go_at_call 64; refine (Tryz.strings_Contains x ⟨#[44]⟩ m _ (by omega) hm3).mono ?_; rintro e w4 ⟨rfl, rfl⟩; rw [show Lib.contains x.data.toList (⟨#[44]⟩ : ByteArray).data.toList = true from H4.out]))
              refine bodyPost_ret (v := .tuple #[Ct.nmV none, .int .i64 3]) (by simp [results, Tryz.results30, go_sem, hc, Ct.nmV]) rfl ⟨by rw [HN.out]; rfl, Tx.set3 (Tx.step hBr hb3) (Nat.le_refl _) _ _ _⟩
            | false =>
              have HI := Lib.hid (Ct.all_next (P := fun p => Ct.wrongPart p.data.toList = false) hx (Ct.wrong_not h1 h2 h4) hI.out)
              have H4 := Lib.hid h4
              clear h1 h2 h4 hxm hx
              go_wp2_with (first
                | (go_at_call 63; refine (text_Clean_c x _ (by omega) HXV.out).mono ?_; rintro e w3 ⟨rfl, hb3⟩; rw [HY.out]; have hm3 := cell_later hb3 hm)
                | (go_at_call 64; refine (Tryz.strings_Contains x ⟨#[44]⟩ m _ (by omega) hm3).mono ?_; rintro e w4 ⟨rfl, rfl⟩; rw [show Lib.contains x.data.toList (⟨#[44]⟩ : ByteArray).data.toList = false from H4.out]))
              go_roundw
              case rel => exact ⟨k + 1, by omega, by go_num, HI, Tx.step hb hb3⟩
              case measure => simp [intOf]; omega
          · rw [decide_eq_false h2] at hyx
            have HN : Hid (Ct.name s.data.toList = none) := Lib.hid (Ct.name_wrong HV.out hxm (Ct.wrong_clean h2))
            clear h1 h2 hxm hx hm
            go_wp2_with (go_at_call 63; refine (text_Clean_c x _ (by omega) HXV.out).mono ?_; rintro e w3 ⟨rfl, hb3⟩; rw [HY.out]; obtain ⟨hc, hf, hlt2⟩ := Tx.blk (Tx.blk_later hblkr hb3))
            refine bodyPost_ret (v := .tuple #[Ct.nmV none, .int .i64 3]) (by simp [results, Tryz.results30, go_sem, hc, Ct.nmV]) rfl ⟨by rw [HN.out]; rfl, Tx.set3 (Tx.step hBr hb3) (Nat.le_refl _) _ _ _⟩
      · obtain rfl : k = xs.length := by omega
        have hI2 := hI.out
        rw [List.take_length] at hI2
        have HW0 : Hid ((Lib.split s.data.toList [44, 32]).any Ct.wrongPart = false) := Lib.hid (by rw [← show xs.map (·.data.toList) = Lib.split s.data.toList [44, 32] from HX.out]; exact Ct.all_fine hI2)
        have HXL : Hid (∀ x ∈ xs, x.size ≤ 1000000) := Lib.hid (fun x hx => by
          have := (HSV.out x.data.toList (by rw [← show xs.map (·.data.toList) = Lib.split s.data.toList [44, 32] from HX.out]; exact List.mem_map.2 ⟨x, hx, rfl⟩)).2
          rw [← Lib.size_eq, ← Lib.size_eq] at this
          omega)
        have hxne : xs ≠ [] := fun h9 => HSN.out (by rw [← show xs.map (·.data.toList) = Lib.split s.data.toList [44, 32] from HX.out, h9]; rfl)
        have hGr := hG.below hBr
        clear hI hI2 hA2 hb hblk2 hB2 hlt
        rcases Ct.short3 hxne (by omega) with ⟨x1, rfl⟩ | ⟨x1, x2, rfl⟩ | ⟨x1, x2, x3, rfl⟩
        · obtain ⟨b, o, rfl, hbl, c0⟩ := hAr.get (k := 0) (x := x1) rfl
          rw [Nat.add_zero] at c0
          have HN : Hid (Ct.name s.data.toList = some (x1.data.toList, [], [])) := Lib.hid (Ct.name_1 HV.out HW0.out HX.out.symm)
          obtain ⟨hc, hf, hlt2⟩ := Tx.blk hblkr
          clear hxne
          go_wp2
          refine bodyPost_ret (v := .tuple #[.agg #[.string x1, .string ⟨#[]⟩, .string ⟨#[]⟩], .int .i64 0]) (by simp [results, Tryz.results30, go_sem, hc, hlt2]) rfl ⟨by rw [HN.out]; rfl, (Tx.set3 hBr (Nat.le_refl _) _ _ _).alloc (by have := hBr.size; simp; omega) _⟩
        · obtain ⟨b, o, rfl, hbl, c0⟩ := hAr.get (k := 0) (x := x1) rfl
          obtain ⟨b', o', e9, _, c1⟩ := hAr.get (k := 1) (x := x2) rfl
          cases e9
          rw [Nat.add_zero] at c0
          have hx2 := HXL.out x2 (by simp)
          obtain ⟨hc, hf, hlt2⟩ := Tx.blk hblkr
          obtain ⟨d, hd⟩ : ∃ d, Hd.dates x2.data.toList = d := ⟨_, rfl⟩
          have hnm := Ct.name_2 HV.out HW0.out HX.out.symm
          rw [hd] at hnm
          have HD := Lib.hid hd; clear hd
          have hBa := hBr.alloc hBr.size (.cells #[.string x1, .string ⟨#[]⟩, .string ⟨#[]⟩] 60)
          clear hxne
          cases d with
          | true =>
            rw [if_pos rfl] at hnm
            have HN := Lib.hid hnm; clear hnm
            go_wp2_with (go_at_call 65; refine (heading_dates_c x2 _ (by omega) (hGr.below (Tx.newb _ _))).mono ?_; rintro e w5 ⟨rfl, hb5⟩; rw [HD.out]; obtain ⟨nc, nf, nl⟩ := Tx.blk (Tx.fresh hb5); obtain ⟨rc, rf, rl⟩ := Tx.blk (Tx.keep hblkr hb5); have d1 := cell_later ((Tx.newb wr _).trans (hb5.mono (Tx.newb wr _).size)) c1)
            refine bodyPost_ret (v := .tuple #[.agg #[.string x1, .string ⟨#[]⟩, .string x2], .int .i64 0]) (by simp [results, Tryz.results30, go_sem, rc]) rfl ⟨by rw [HN.out]; rfl, Tx.set3 ((Tx.step hBa hb5).setCell hBr.size _) (Nat.le_refl _) _ _ _⟩
          | false =>
            rw [if_neg (by decide)] at hnm
            have HN := Lib.hid hnm; clear hnm
            go_wp2_with (go_at_call 65; refine (heading_dates_c x2 _ (by omega) (hGr.below (Tx.newb _ _))).mono ?_; rintro e w5 ⟨rfl, hb5⟩; rw [HD.out]; obtain ⟨nc, nf, nl⟩ := Tx.blk (Tx.fresh hb5); obtain ⟨rc, rf, rl⟩ := Tx.blk (Tx.keep hblkr hb5); have d1 := cell_later ((Tx.newb wr _).trans (hb5.mono (Tx.newb wr _).size)) c1)
            refine bodyPost_ret (v := .tuple #[.agg #[.string x1, .string x2, .string ⟨#[]⟩], .int .i64 0]) (by simp [results, Tryz.results30, go_sem, rc]) rfl ⟨by rw [HN.out]; rfl, Tx.set3 ((Tx.step hBa hb5).setCell hBr.size _) (Nat.le_refl _) _ _ _⟩
        · obtain ⟨b, o, rfl, hbl, c0⟩ := hAr.get (k := 0) (x := x1) rfl
          obtain ⟨b', o', e9, _, c1⟩ := hAr.get (k := 1) (x := x2) rfl
          cases e9
          obtain ⟨b', o', e9, _, c2⟩ := hAr.get (k := 2) (x := x3) rfl
          cases e9
          rw [Nat.add_zero] at c0
          have hx3 := HXL.out x3 (by simp)
          obtain ⟨hc, hf, hlt2⟩ := Tx.blk hblkr
          obtain ⟨d, hd⟩ : ∃ d, Hd.dates x3.data.toList = d := ⟨_, rfl⟩
          have hnm := Ct.name_3 HV.out HW0.out HX.out.symm
          rw [hd] at hnm
          have HD := Lib.hid hd; clear hd
          have hBa := hBr.alloc hBr.size (.cells #[.string x1, .string ⟨#[]⟩, .string ⟨#[]⟩] 60)
          clear hxne
          cases d with
          | true =>
            rw [if_pos rfl] at hnm
            have HN := Lib.hid hnm; clear hnm
            go_wp2_with (go_at_call 65; refine (heading_dates_c x3 _ (by omega) (hGr.below (Tx.newb _ _))).mono ?_; rintro e w5 ⟨rfl, hb5⟩; rw [HD.out]; obtain ⟨nc, nf, nl⟩ := Tx.blk (Tx.fresh hb5); obtain ⟨rc, rf, rl⟩ := Tx.blk (Tx.keep hblkr hb5); have d1 := cell_later ((Tx.newb wr _).trans (hb5.mono (Tx.newb wr _).size)) c1; have d2 := cell_later ((Tx.newb wr _).trans (hb5.mono (Tx.newb wr _).size)) c2)
            have hz : Below w.heap.size w ((w5.setCell ⟨wr.heap.size, 1, none⟩ (.string x2)).setCell ⟨wr.heap.size, 2, none⟩ (.string x3)) := ((Tx.step hBa hb5).setCell hBr.size _).setCell hBr.size _
            go_region
            all_goals
              go_wp2
              refine bodyPost_ret (v := .tuple #[.agg #[.string x1, .string x2, .string x3], .int .i64 0]) (by simp [results, Tryz.results30, go_sem, rc]) rfl ⟨by rw [HN.out]; rfl, (Tx.set3 hz (Nat.le_refl _) _ _ _).drew⟩
          | false =>
            rw [if_neg (by decide)] at hnm
            have HN := Lib.hid hnm; clear hnm
            go_wp2_with (go_at_call 65; refine (heading_dates_c x3 _ (by omega) (hGr.below (Tx.newb _ _))).mono ?_; rintro e w5 ⟨rfl, hb5⟩; rw [HD.out]; obtain ⟨nc, nf, nl⟩ := Tx.blk (Tx.fresh hb5); obtain ⟨rc, rf, rl⟩ := Tx.blk (Tx.keep hblkr hb5))
            refine bodyPost_ret (v := .tuple #[Ct.nmV none, .int .i64 3]) (by simp [results, Tryz.results30, go_sem, rc, Ct.nmV]) rfl ⟨by rw [HN.out]; rfl, Tx.set3 (Tx.step hBa hb5) (Nat.le_refl _) _ _ _⟩
end Go.Proofs.YtlinaeklhkfbcaaGreatDoor
