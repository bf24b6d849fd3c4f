/- The program's two orders, by which what is found and the pairs are sorted: what the calls return. -/
import Derived.Test.YtogpghpgnpoioaaGreatDoorKf
import Derived.Test.YtogpghpgnpoioaaGreatDoorKq
import Derived.StillTailTactics
import Derived.Test.YtogpghpgnpoioaaGreatDoorKl
import Derived.Test.YtogpghpgnpoioaaGreatDoorKe
namespace Go.Proofs.YtogpghpgnpoioaaGreatDoor
open Go.RowKit
open Go.Sort (grow)
set_option maxRecDepth 100000

namespace Mt
def or2 (a b : Int) : Int := if a ≠ 0 then a else b
def enc2 (x : Int × Int) : List Value := [.int .i64 x.1, .int .i64 x.2]
theorem enc2_len (x : Int × Int) : (enc2 x).length = 2 := rfl
theorem enc2_one (x : Int × Int) : ∀ u ∈ enc2 x, u.oneCell' = true := by simp [enc2, Value.oneCell']
/-- The order of what is found. -/
def cmpF (x y : Int × Int) : Int := or2 (Lib.compareInt y.2 x.2) (Lib.compareInt x.1 y.1)
def cmpQ (x y : Int × Int) : Int := or2 (Lib.compareInt x.1 y.1) (Lib.compareInt x.2 y.2)
theorem cmp_neg (a b c d : Int) : decide (or2 (Lib.compareInt a b) (Lib.compareInt c d) < 0) = (decide (a < b) || (decide (a = b) && decide (c < d))) := by
  rw [Bool.eq_iff_iff]
  simp only [Bool.or_eq_true, Bool.and_eq_true, decide_eq_true_eq]
  unfold or2 Lib.compareInt
  by_cases h1 : a < b
  · simp [h1]
  · by_cases h2 : a > b
    · have h3 : ¬ a = b := by omega
      simp [h1, h2, h3]
    · have h3 : a = b := by omega
      subst h3
      by_cases h4 : c < d
      · simp [h4]
      · by_cases h5 : c > d
        · simp [h4, h5]
        · simp [h4, h5]
theorem cmpF_lt : ltOf cmpF = ltF := by
  funext x y
  show decide (cmpF x y < 0) = ltF x y
  unfold cmpF ltF
  rw [cmp_neg]
  congr 2
  rw [decide_eq_decide]
  exact ⟨fun h => h.symm, fun h => h.symm⟩
theorem cmpQ_lt : ltOf cmpQ = ltP := by
  funext x y
  show decide (cmpQ x y < 0) = ltP x y
  unfold cmpQ ltP
  rw [cmp_neg]
theorem swo_of {lt : Int × Int → Int × Int → Bool} (o : Cp.Ord lt) : Go.Sort.SWO lt where
  irrefl x := o.irr x
  trans x y z h1 h2 := o.tr h1 h2
  ntrans x y z h1 h2 := by
    by_cases e : x = y
    · rw [e]; exact h2
    · have h3 := o.tot h1 e
      rw [Bool.eq_false_iff]
      intro h4
      have h5 := o.tr h3 h4
      rw [h2] at h5
      cases h5
theorem tot_of {lt : Int × Int → Int × Int → Bool} (o : Cp.Ord lt) (x y : Int × Int) (h1 : lt x y = false) (h2 : lt y x = false) : x = y := by
  by_cases e : x = y
  · exact e
  · rw [o.tot h1 e] at h2; cases h2
/-- What the sort leaves is the ascending list. -/
theorem sorted_puts2 {lt : Int × Int → Int × Int → Bool} (o : Cp.Ord lt) {T : List (Int × Int)} (hn : T.Nodup) : (T.mergeSort fun x y => !lt y x) = Cp.puts lt T := by
  have hp := List.mergeSort_perm T fun x y => !lt y x
  refine Cp.puts_of o ?_ fun z => hp.mem_iff
  have hs := List.pairwise_mergeSort (le := fun x y => !lt y x) (fun a b c h1 h2 => by
    simp only [Bool.not_eq_true'] at *
    exact (swo_of o).ntrans c b a h2 h1) (fun a b => by
    by_cases e : a = b
    · rw [e, o.irr]; rfl
    · cases h : lt b a with
      | false => rfl
      | true =>
        have : lt a b = false := by
          rw [Bool.eq_false_iff]; intro h9
          have := o.tr h h9; rw [o.irr] at this; cases this
        rw [this]; rfl) T
  have hnd : (T.mergeSort fun x y => !lt y x).Nodup := hp.nodup_iff.2 hn
  unfold Cp.Asc
  refine (hs.and hnd).imp fun ⟨h1, h2⟩ => ?_
  exact o.tot (by simpa using h1) (fun e => h2 e.symm)
theorem grow_three {w W wq : World} {o1 o2 : Obj} (h : (w.alloc o1).alloc o2 = W) (h2 : W.drew = wq) (o : Obj) : ∃ n os, wq.alloc o = grow (w.drewN n) os := by
  refine ⟨1, #[o1] ++ #[o2] ++ #[o], ?_⟩
  rw [← h2, ← h, Go.Sort.alloc_eq_grow, Go.Sort.alloc_eq_grow, Go.Sort.alloc_eq_grow, ← Go.Sort.grow_grow, ← Go.Sort.grow_grow]
  rfl
theorem grow_two {w W wq : World} {o1 o2 : Obj} (h : (w.alloc o1).alloc o2 = W) (h2 : W.drew = wq) : ∃ n os, wq = grow (w.drewN n) os := by
  refine ⟨1, #[o1] ++ #[o2], ?_⟩
  rw [← h2, ← h, Go.Sort.alloc_eq_grow, Go.Sort.alloc_eq_grow, ← Go.Sort.grow_grow]
  rfl
end Mt
set_option maxHeartbeats 800000 in
theorem cmp_or2_c (a b : Int) (X : Nat) (w : World) (c0 : w.cell? ⟨X, 0, none⟩ = some (.int .i64 a)) (c1 : w.cell? ⟨X, 1, none⟩ = some (.int .i64 b)) :
    Calls Tryz.prog 46 #[.slice (some ⟨X, 0, none⟩) 2 2] w fun e w' => e = .returned (.int .i64 (Mt.or2 a b)) ∧ w = w' := by
  go_enter Tryz.func46, Tryz.ntmps46
  go_wp2
  go_loop [8] (fun i => ∃ (k : Nat), k ≤ 2 ∧ i = .int .i64 k ∧ (1 ≤ k → a = 0) ∧ (2 ≤ k → b = 0)) (fun i => 2 - (intOf i).toNat)
  case atStart => exact ⟨0, by omega, by go_num, fun h => by omega, fun h => by omega⟩
  case round =>
    obtain ⟨k, hk, rfl, ha, hb⟩ := hrel
    rcases (by omega : k = 0 ∨ k = 1 ∨ k = 2) with rfl | rfl | rfl
    · cases hq : (a != 0) with
      | true =>
        have HR : Hid (Mt.or2 a b = a) := Lib.hid (if_pos (by simpa using hq))
        clear ha hb
        go_wp2
        go_ret
        exact ⟨by rw [HR.out]; rfl, rfl⟩
      | false =>
        have ha0 := Lib.hid (show a = 0 by simpa using hq)
        clear ha hb
        go_wp2
        go_round
        case rel => exact ⟨1, by omega, by go_num, fun _ => ha0.out, fun h => by omega⟩
        case measure => simp [intOf]
    · have ha0 := Lib.hid (ha (by omega))
      clear ha hb
      have HR : Hid (Mt.or2 a b = b) := Lib.hid (by unfold Mt.or2; rw [if_neg (by rw [ha0.out]; simp)])
      cases hq : (b != 0) with
      | true =>
        go_wp2
        go_ret
        exact ⟨by rw [HR.out]; rfl, rfl⟩
      | false =>
        have hb0 := Lib.hid (show b = 0 by simpa using hq)
        go_wp2
        go_round
        case rel => exact ⟨2, by omega, by go_num, fun _ => ha0.out, fun _ => hb0.out⟩
        case measure => simp [intOf]
    · have ha0 := Lib.hid (ha (by omega))
      have hb0 := Lib.hid (hb (by omega))
      clear ha hb
      have HR : Hid (Mt.or2 a b = 0) := Lib.hid (by unfold Mt.or2; rw [if_neg (by rw [ha0.out]; simp), hb0.out])
      go_wp2
      go_ret
      exact ⟨by rw [HR.out]; rfl, rfl⟩
set_option maxHeartbeats 1600000 in
theorem find_order_c (x y : Int × Int) (w : World) : Calls Tryz.prog 45 #[.agg #[.int .i64 x.1, .int .i64 x.2], .agg #[.int .i64 y.1, .int .i64 y.2]] w fun e w' => e = .returned (.int .i64 (Mt.cmpF x y)) ∧ ∃ n os, w' = grow (w.drewN n) os := by
  obtain ⟨W, hW⟩ : ∃ W, (w.alloc (.cells #[.int .i64 x.1, .int .i64 x.2] 72)).alloc (.cells #[.int .i64 y.1, .int .i64 y.2] 72) = W := ⟨_, rfl⟩
  have HW := Lib.hid hW
  have c0 : W.cell? ⟨w.heap.size, 0, none⟩ = some (.int .i64 x.1) := by rw [← hW]; simp
  have c1 : W.cell? ⟨w.heap.size, 1, none⟩ = some (.int .i64 x.2) := by rw [← hW]; simp
  have d0 : W.cell? ⟨w.heap.size + 1, 0, none⟩ = some (.int .i64 y.1) := by rw [← hW]; simp
  have d1 : W.cell? ⟨w.heap.size + 1, 1, none⟩ = some (.int .i64 y.2) := by rw [← hW]; simp
  go_enter Tryz.func45, Tryz.ntmps45
  go_wp2
  clear hW
  refine wp_region_still_tail 10 (by kernel_rfl) (by kernel_rfl) ?_
  simp only [List.take_succ_cons, List.take_zero, List.drop_succ_cons, List.drop_zero]
  repeat still_step
  still_call (Tryz.cmp_Compare_int y.2 x.2 _)
  repeat still_step
  still_call (Tryz.cmp_Compare_int x.1 y.1 _)
  try refine wpStill_nil ?_
  change wpList _ _ _ _ _ W.drew
  obtain ⟨wq, hwq⟩ : ∃ wq, W.drew = wq := ⟨_, rfl⟩
  have HQ := Lib.hid hwq
  rw [hwq]
  clear hwq
  go_wp2_with (go_at_call 46; refine (cmp_or2_c (Lib.compareInt y.2 x.2) (Lib.compareInt x.1 y.1) wq.heap.size _ (by simp) (by simp)).mono ?_; rintro e w' ⟨rfl, rfl⟩)
  go_ret
  exact ⟨rfl, Mt.grow_three HW.out HQ.out _⟩
theorem find_order_enters : ∀ args w, (callFunc 45 args).run Tryz.prog w = .ok (.enter 45 args) w := enters_of Tryz.func45 (by kernel_rfl) rfl

set_option maxHeartbeats 1600000 in
theorem cmp_list2_c (a b : Nat) (x y : Int × Int) (w : World) (c0 : w.cell? ⟨a, 0, none⟩ = some (.int .i64 x.1)) (c1 : w.cell? ⟨a, 1, none⟩ = some (.int .i64 x.2)) (d0 : w.cell? ⟨b, 0, none⟩ = some (.int .i64 y.1)) (d1 : w.cell? ⟨b, 1, none⟩ = some (.int .i64 y.2)) :
    Calls Tryz.prog 50 #[.slice (some ⟨a, 0, none⟩) 2 2, .slice (some ⟨b, 0, none⟩) 2 2] w fun e w' => e = .returned (.int .i64 (Mt.cmpQ x y)) ∧ w = w' := by
  obtain ⟨p, hp⟩ : ∃ p, Lib.compareInt x.1 y.1 = p := ⟨_, rfl⟩
  obtain ⟨q, hq⟩ : ∃ q, Lib.compareInt x.2 y.2 = q := ⟨_, rfl⟩
  have CP := Tryz.cmp_Compare_int x.1 y.1
  have CQ := Tryz.cmp_Compare_int x.2 y.2
  have HR : Hid (Mt.cmpQ x y = Mt.or2 p q) := Lib.hid (by unfold Mt.cmpQ; rw [hp, hq])
  rw [hp] at CP
  rw [hq] at CQ
  clear hp hq
  go_enter Tryz.func50, Tryz.ntmps50
  go_wp2
  go_loop [11] (fun i => ∃ (k : Nat), k ≤ 2 ∧ i = .int .i64 k ∧ (1 ≤ k → p = 0) ∧ (2 ≤ k → q = 0)) (fun i => 2 - (intOf i).toNat)
  case atStart => exact ⟨0, by omega, by go_num, fun h => by omega, fun h => by omega⟩
  case round =>
    obtain ⟨k, hk, rfl, ha, hb⟩ := hrel
    rcases (by omega : k = 0 ∨ k = 1 ∨ k = 2) with rfl | rfl | rfl
    · cases hz : (p != 0) with
      | true =>
        have HR2 : Hid (Mt.or2 p q = p) := Lib.hid (if_pos (by simpa using hz))
        clear ha hb
        go_wp2_with (go_at_call 47; ((with_reducible refine (CP _).mono ?_); rintro e w1 ⟨rfl, h1⟩; subst h1))
        go_ret
        exact ⟨by rw [HR.out, HR2.out]; rfl, rfl⟩
      | false =>
        have ha0 := Lib.hid (show p = 0 by simpa using hz)
        clear ha hb
        go_wp2_with (go_at_call 47; ((with_reducible refine (CP _).mono ?_); rintro e w1 ⟨rfl, h1⟩; subst h1))
        go_round
        case rel => exact ⟨1, by omega, by go_num, fun _ => ha0.out, fun h => by omega⟩
        case measure => simp [intOf]
    · have ha0 := Lib.hid (ha (by omega))
      clear ha hb
      have HR1 : Hid (Mt.or2 p q = q) := Lib.hid (by unfold Mt.or2; rw [if_neg (by rw [ha0.out]; simp)])
      cases hz : (q != 0) with
      | true =>
        go_wp2_with (go_at_call 47; ((with_reducible refine (CQ _).mono ?_); rintro e w1 ⟨rfl, h1⟩; subst h1))
        go_ret
        exact ⟨by rw [HR.out, HR1.out]; rfl, rfl⟩
      | false =>
        have hb0 := Lib.hid (show q = 0 by simpa using hz)
        go_wp2_with (go_at_call 47; ((with_reducible refine (CQ _).mono ?_); rintro e w1 ⟨rfl, h1⟩; subst h1))
        go_round
        case rel => exact ⟨2, by omega, by go_num, fun _ => ha0.out, fun _ => hb0.out⟩
        case measure => simp [intOf]
    · have ha0 := Lib.hid (ha (by omega))
      have hb0 := Lib.hid (hb (by omega))
      clear ha hb
      have HR1 : Hid (Mt.or2 p q = 0) := Lib.hid (by unfold Mt.or2; rw [if_neg (by rw [ha0.out]; simp), hb0.out])
      go_wp2
      go_ret
      exact ⟨by rw [HR.out, HR1.out]; rfl, rfl⟩
set_option maxHeartbeats 1600000 in
theorem pair_order_c (x y : Int × Int) (w : World) : Calls Tryz.prog 49 #[.agg #[.int .i64 x.1, .int .i64 x.2], .agg #[.int .i64 y.1, .int .i64 y.2]] w fun e w' => e = .returned (.int .i64 (Mt.cmpQ x y)) ∧ ∃ n os, w' = grow (w.drewN n) os := by
  obtain ⟨W, hW⟩ : ∃ W, (w.alloc (.cells #[.int .i64 x.1, .int .i64 x.2] 59)).alloc (.cells #[.int .i64 y.1, .int .i64 y.2] 59) = W := ⟨_, rfl⟩
  have HW := Lib.hid hW
  have c0 : W.cell? ⟨w.heap.size, 0, none⟩ = some (.int .i64 x.1) := by rw [← hW]; simp
  have c1 : W.cell? ⟨w.heap.size, 1, none⟩ = some (.int .i64 x.2) := by rw [← hW]; simp
  have d0 : W.cell? ⟨w.heap.size + 1, 0, none⟩ = some (.int .i64 y.1) := by rw [← hW]; simp
  have d1 : W.cell? ⟨w.heap.size + 1, 1, none⟩ = some (.int .i64 y.2) := by rw [← hW]; simp
  go_enter Tryz.func49, Tryz.ntmps49
  go_wp2
  clear hW
  go_still_tail 2, (by kernel_rfl)
  change wpList _ _ _ _ _ W.drew
  obtain ⟨wq, hwq⟩ : ∃ wq, W.drew = wq := ⟨_, rfl⟩
  have HQ := Lib.hid hwq
  have hbq : Below W.heap.size W wq := by rw [← hwq]; exact (Below.refl _ _).drew
  rw [hwq]
  replace c0 := cell_later hbq c0
  replace c1 := cell_later hbq c1
  replace d0 := cell_later hbq d0
  replace d1 := cell_later hbq d1
  have HC := Lib.hid (cmp_list2_c w.heap.size (w.heap.size + 1) x y wq c0 c1 d0 d1)
  clear hwq hbq
  go_wp2_with (go_at_call 50; ((with_reducible refine HC.out.mono ?_); rintro e w' ⟨rfl, rfl⟩))
  go_ret
  exact ⟨rfl, Mt.grow_two HW.out HQ.out⟩
theorem pair_order_enters : ∀ args w, (callFunc 49 args).run Tryz.prog w = .ok (.enter 49 args) w := enters_of Tryz.func49 (by kernel_rfl) rfl
theorem SortF_c {B : Nat} {v : Value} {T : List (Int × Int)} {w : World} (h : w.ownsRow B 72 2 v T.length (T.flatMap Mt.enc2)) (hl : T.length < 1000000000) (hn : T.Nodup) :
    Calls Tryz.prog 44 #[v, .func (.func 45) #[] #[]] w fun e w' => e = .returned (.tuple #[]) ∧ w'.ownsRow B 72 2 v T.length ((Cp.puts Mt.ltF T).flatMap Mt.enc2) ∧ w.grownBy w' v.ownBlock := by
  have hs := Sq.sort_total Tryz.sortFound Tryz.isAgg72 Tryz.sizeOf72 Mt.enc2_len (by decide) Mt.enc2_one Mt.cmpF (by rw [Mt.cmpF_lt]; exact Mt.swo_of Mt.ordF) (by rw [Mt.cmpF_lt]; exact Mt.tot_of Mt.ordF) 45 #[] find_order_enters (fun W x y _ => find_order_c x y W) h hl
  rw [Mt.cmpF_lt, Mt.sorted_puts2 Mt.ordF hn] at hs
  exact hs
theorem SortP_c {B : Nat} {v : Value} {T : List (Int × Int)} {w : World} (h : w.ownsRow B 59 2 v T.length (T.flatMap Mt.enc2)) (hl : T.length < 1000000000) (hn : T.Nodup) :
    Calls Tryz.prog 48 #[v, .func (.func 49) #[] #[]] w fun e w' => e = .returned (.tuple #[]) ∧ w'.ownsRow B 59 2 v T.length ((Cp.puts Mt.ltP T).flatMap Mt.enc2) ∧ w.grownBy w' v.ownBlock := by
  have hs := Sq.sort_total Tryz.sortPair Tryz.isAgg59 Tryz.sizeOf59 Mt.enc2_len (by decide) Mt.enc2_one Mt.cmpQ (by rw [Mt.cmpQ_lt]; exact Mt.swo_of Mt.ordP) (by rw [Mt.cmpQ_lt]; exact Mt.tot_of Mt.ordP) 49 #[] pair_order_enters (fun W x y _ => pair_order_c x y W) h hl
  rw [Mt.cmpQ_lt, Mt.sorted_puts2 Mt.ordP hn] at hs
  exact hs
end Go.Proofs.YtogpghpgnpoioaaGreatDoor

/- The reference's Distinct and SamePairs: what the calls return. -/
namespace Go.Proofs.YtogpghpgnpoioaaGreatDoor
open Go.RowKit
set_option maxRecDepth 100000

namespace Mt
abbrev ids (rs : List Rc.Rd) : List Int := rs.map (·.id)
theorem ids_take {rs : List Rc.Rd} {k : Nat} {x : Rc.Rd} (h : rs[k]? = some x) : ids (rs.take (k + 1)) = ids (rs.take k) ++ [x.id] := by
  unfold ids
  rw [List.take_add_one, h, List.map_append]; rfl
theorem nodup_snoc {l : List Int} {x : Int} (h1 : l.Nodup) (h2 : ∀ y ∈ l, y ≠ x) : (l ++ [x]).Nodup := by
  rw [List.nodup_append]
  refine ⟨h1, by simp, fun a ha b hb => ?_⟩
  rw [List.mem_singleton] at hb
  rw [hb]
  exact h2 a ha
theorem not_nodup {rs : List Rc.Rd} {i j : Nat} {x y : Rc.Rd} (h1 : rs[i]? = some x) (h2 : rs[j]? = some y) (hlt : j < i) (h : x.id = y.id) : ¬ (ids rs).Nodup := by
  intro hn
  have hi : (ids rs)[i]? = some x.id := by unfold ids; rw [List.getElem?_map, h1]; rfl
  have hj : (ids rs)[j]? = some y.id := by unfold ids; rw [List.getElem?_map, h2]; rfl
  obtain ⟨hi1, hi2⟩ := List.getElem?_eq_some_iff.1 hi
  obtain ⟨hj1, hj2⟩ := List.getElem?_eq_some_iff.1 hj
  have := (List.nodup_iff_pairwise_ne.1 hn)
  have := List.pairwise_iff_getElem.1 this j i hj1 hi1 hlt
  exact this (by rw [hi2, hj2, h])
end Mt

set_option maxHeartbeats 1600000 in
theorem r15_Distinct_c (rs : List Rc.Rd) (a : Option Addr) (c : Nat) (w : World) (h : Rc.RdA w a c rs) :
    Calls Tryz.prog 43 #[.slice a rs.length c] w fun e w' => e = .returned (.bool (decide (Mt.ids rs).Nodup)) ∧ Below w.heap.size w w' := by
  have hml : maxLen = 9223372036854775807 := rfl
  have hcap := h.cap
  have hmax := h.max
  have HS := Lib.hid h; clear h
  go_enter Tryz.func43, Tryz.ntmps43
  go_wp2
  go_loopw [3] (fun i wr => ∃ (k : Nat), k ≤ rs.length ∧ i = .int .i64 k ∧ Hid ((Mt.ids (rs.take k)).Nodup) ∧ Below w.heap.size w wr) (fun i _ => rs.length - (intOf i).toNat)
  case atStart => exact ⟨0, Nat.zero_le _, rfl, Lib.hid (by simp), Below.refl _ _⟩
  case round =>
    obtain ⟨k, hk, rfl, hI, hb⟩ := hrel
    by_cases hlt : k < rs.length
    · obtain ⟨x, hx⟩ : ∃ x, rs[k]? = some x := ⟨_, List.getElem?_eq_getElem hlt⟩
      obtain ⟨b, o, fa, fc, rfl, hbl, x0, x1, x2, x3, x4, hfx⟩ := HS.out.get hx
      replace x0 := cell_later hb x0
      clear x1 x2 x3 x4 hfx
      obtain ⟨wo, hwo⟩ : ∃ wo, wo = wr := ⟨_, rfl⟩
      subst hwo
      go_wp2
      go_loopw [4] (fun i wr => ∃ (j : Nat), j ≤ k ∧ i = .int .i64 j ∧ Hid (∀ y ∈ Mt.ids (rs.take j), y ≠ x.id) ∧ Below wo.heap.size wo wr) (fun i _ => k - (intOf i).toNat)
      case atStart => exact ⟨0, Nat.zero_le _, rfl, Lib.hid (by simp), Below.refl _ _⟩
      case round =>
        obtain ⟨j, hj, rfl, hJ, hb2⟩ := hrel
        replace x0 := cell_later hb2 x0
        by_cases hjl : j < k
        · obtain ⟨y, hy⟩ : ∃ y, rs[j]? = some y := ⟨_, List.getElem?_eq_getElem (by omega)⟩
          obtain ⟨b2, o2, fa2, fc2, e2, _, y0, y1, y2, y3, y4, hfy⟩ := HS.out.get hy
          injection e2 with e2
          injection e2 with e2 e3
          subst e2 e3
          replace y0 := cell_later hb2 (cell_later hb y0)
          clear y1 y2 y3 y4 hfy
          have hjr : j < rs.length := by omega
          by_cases hxy : x.id = y.id
          · have HM := Lib.hid (decide_eq_false (Mt.not_nodup hx hy hjl hxy))
            have hq : (x.id == y.id) = true := by rw [hxy]; exact beq_self_eq_true _
            clear hxy hx hy
            go_wp2
            go_quiet (fail)
            have hbq := Tx.below_drewN (Below.refl wr.heap.size wr) nq
            generalize wr.drewN nq = w5 at hbq ⊢
            go_wp2
            go_ret
            exact ⟨by rw [HM.out]; rfl, Tx.step (Tx.step hb hb2) hbq⟩
          · have HN : Hid (∀ z ∈ Mt.ids (rs.take (j + 1)), z ≠ x.id) := Lib.hid (fun z hz => by
              rw [Mt.ids_take hy] at hz
              rcases List.mem_append.1 hz with h1 | h1
              · exact hJ.out z h1
              · rw [List.mem_singleton] at h1; rw [h1]; exact fun e => hxy e.symm)
            have hq : (x.id == y.id) = false := beq_eq_false_iff_ne.2 hxy
            clear hxy hy hJ
            go_wp2
            go_quiet (fail)
            have hbq := Tx.below_drewN (Below.refl wr.heap.size wr) nq
            generalize wr.drewN nq = w5 at hbq ⊢
            go_wp2
            go_roundw
            case rel => exact ⟨j + 1, hjl, by go_num, HN, Tx.step hb2 hbq⟩
            case measure => simp [intOf]; omega
        · obtain rfl : j = k := by omega
          have HN : Hid ((Mt.ids (rs.take (j + 1))).Nodup) := Lib.hid (by rw [Mt.ids_take hx]; exact Mt.nodup_snoc hI.out hJ.out)
          clear hx hI hJ
          go_wp2
          go_roundw
          case rel => exact ⟨j + 1, hlt, by go_num, HN, Tx.step hb hb2⟩
          case measure => simp [intOf]; omega
    · obtain rfl : k = rs.length := by omega
      have HM := Lib.hid (decide_eq_true (show (Mt.ids rs).Nodup by have := hI.out; rw [List.take_length] at this; exact this))
      go_wp2
      go_ret
      exact ⟨by rw [HM.out]; rfl, hb⟩
end Go.Proofs.YtogpghpgnpoioaaGreatDoor

/- The program's Find: what the call returns. -/
namespace Go.Proofs.YtogpghpgnpoioaaGreatDoor
open Go.RowKit
set_option maxRecDepth 100000

namespace Mt
/-- What one record gives. -/
def hitS (m : Rule) (r x : Rc.Rd) : List (Int × Int) := if x.id ≠ r.id ∧ m.need ≤ score m x r then [(x.id, score m x r)] else []
theorem hitsF_succ (m : Rule) (r : Rc.Rd) {l : List Rc.Rd} {k : Nat} {x : Rc.Rd} (h : l[k]? = some x) : hitsF m (l.take (k + 1)) r = hitsF m (l.take k) r ++ hitS m r x := by
  unfold hitsF
  rw [List.take_add_one, h, List.filter_append, List.map_append]
  congr 1
  unfold hitS
  by_cases h1 : x.id = r.id
  · rw [if_neg (fun h9 => h9.1 h1)]
    simp [h1]
  · by_cases h2 : m.need ≤ score m x r
    · rw [if_pos ⟨h1, h2⟩]
      simp [h1, h2]
    · rw [if_neg (fun h9 => h2 h9.2)]
      simp [h2]
theorem hitsF_nodup (m : Rule) (r : Rc.Rd) {l : List Rc.Rd} (h : (ids l).Nodup) : (hitsF m l r).Nodup := by
  have h1 : ((hitsF m l r).map (·.1)).Nodup := by
    unfold hitsF
    rw [List.map_map]
    exact List.Nodup.sublist (List.Sublist.map _ List.filter_sublist) h
  rw [List.Nodup, List.pairwise_map] at h1
  exact h1.imp fun h9 e => h9 (by rw [e])
theorem hitsF_len (m : Rule) (r : Rc.Rd) (l : List Rc.Rd) : (hitsF m l r).length ≤ l.length := by
  unfold hitsF
  rw [List.length_map]
  exact List.length_filter_le _ _
theorem puts_len_nodup {α : Type} [DecidableEq α] {lt : α → α → Bool} (o : Cp.Ord lt) {l : List α} (h : l.Nodup) : (Cp.puts lt l).length = l.length := by
  have h1 : (Cp.puts lt l).Nodup := (Cp.puts_asc o l).imp fun {a b} h9 e => by rw [e, o.irr] at h9; cases h9
  have h2 : (Cp.puts lt l).Perm l := (List.perm_ext_iff_of_nodup h1 h).2 fun z => Cp.puts_mem lt l z
  exact h2.length_eq
/-- Numbers in memory that the call made. -/
abbrev OwnI (w : World) (B : Nat) (v : Value) (l : List Int) : Prop := w.ownsRow B 3 1 v l.length (l.map (Value.int .i64))
theorem ownI_le {w : World} {B B' : Nat} {v : Value} {l : List Int} (h : OwnI w B v l) (hB : B' ≤ B) : OwnI w B' v l :=
  ⟨h.1, by
    rcases h.2 with h1 | ⟨g, cap, cur, h1, h2, h3⟩
    · exact .inl h1
    · exact .inr ⟨g, cap, cur, h1, Nat.le_trans hB h2, h3⟩⟩
end Mt
theorem info_int15 : (Tryz.prog.info? 3).map (fun i => (i.zero, i.size, i.bytes)) = some (some (.int .i64 0), 1, 8) := by kernel_rfl
theorem info_found : (Tryz.prog.info? 72).map (fun i => (i.zero, i.size, i.bytes)) = some (some (.agg #[.int .i64 0, .int .i64 0]), 2, 16) := by kernel_rfl
theorem info_pair : (Tryz.prog.info? 59).map (fun i => (i.zero, i.size, i.bytes)) = some (some (.agg #[.int .i64 0, .int .i64 0]), 2, 16) := by kernel_rfl

set_option maxHeartbeats 1600000 in
theorem match_Find_c (m : Mt.Rule) (ka : Option Addr) (kc : Nat) (l : List Rc.Rd) (la : Option Addr) (lc : Nat) (r : Rc.Rd) (ra : Option Addr) (rc : Nat) (w : World) (hGw : G w) (hK : Mt.KyA w ka kc m.keys) (hm : Mt.Gm m)
    (hl : Rc.RdA w la lc l) (hG : ∀ x ∈ l, Mt.Gf x.fields) (hr : Rc.FldA w ra rc r.fields) (hGr : Mt.Gf r.fields) (hn : (Mt.ids l).Nodup) (hll : l.length ≤ 1000000) :
    Calls Tryz.prog 23 #[.agg #[.slice ka m.keys.length kc, .int .i64 m.need], .slice la l.length lc, .agg #[.int .i64 r.id, .int .i64 r.ver, .int .i64 r.kind, .string r.lang, .slice ra r.fields.length rc]] w fun e w' => ∃ v, e = .returned v ∧ Mt.OwnI w' w.heap.size v (Mt.find m l r) ∧ Below w.heap.size w w' := by
  have hml : maxLen = 9223372036854775807 := rfl
  obtain ⟨i0, hi0, hz0, hz1, hz2⟩ := info_parts info_found
  obtain ⟨i1, hi1, hy0, hy1, hy2⟩ := info_parts info_int15
  obtain ⟨W, hW⟩ : ∃ W, (w.alloc (.cells #[.slice ka m.keys.length kc, .int .i64 m.need] 24)).alloc (.cells #[.int .i64 r.id, .int .i64 r.ver, .int .i64 r.kind, .string r.lang, .slice ra r.fields.length rc] 33) = W := ⟨_, rfl⟩
  have hB : Below w.heap.size w W := by rw [← hW]; exact (Tx.newb _ _).alloc (Tx.newb w _).size _
  have hWs : W.heap.size = w.heap.size + 2 := by rw [← hW]; simp
  have m0 : W.cell? ⟨w.heap.size, 0, none⟩ = some (.slice ka m.keys.length kc) := by rw [← hW]; simp
  have m1 : W.cell? ⟨w.heap.size, 1, none⟩ = some (.int .i64 m.need) := by rw [← hW]; simp
  have r0 : W.cell? ⟨w.heap.size + 1, 0, none⟩ = some (.int .i64 r.id) := by rw [← hW]; simp
  have r1 : W.cell? ⟨w.heap.size + 1, 1, none⟩ = some (.int .i64 r.ver) := by rw [← hW]; simp
  have r2 : W.cell? ⟨w.heap.size + 1, 2, none⟩ = some (.int .i64 r.kind) := by rw [← hW]; simp
  have r3 : W.cell? ⟨w.heap.size + 1, 3, none⟩ = some (.string r.lang) := by rw [← hW]; simp
  have r4 : W.cell? ⟨w.heap.size + 1, 4, none⟩ = some (.slice ra r.fields.length rc) := by rw [← hW]; simp
  have HL := Lib.hid (hl.below hB)
  have HK := Lib.hid (hK.below hB)
  have HR := Lib.hid (hr.below hB)
  have HGW := Lib.hid (hGw.below hB)
  have HG := Lib.hid hG
  have HGR := Lib.hid hGr
  have HM := Lib.hid hm
  have HN := Lib.hid hn
  have hcap := hl.cap
  have hmax := hl.max
  have HWS := Lib.hid hWs
  clear hl hK hr hGw hG hGr hm hn hWs
  go_enter Tryz.func23, Tryz.ntmps23
  go_wp2
  clear hW
  go_loopw [7, 16] (fun v i wr => ∃ (k : Nat) (H : List (Int × Int)), k ≤ l.length ∧ i = .int .i64 k ∧ Hid (H = Mt.hitsF m (l.take k) r) ∧ H.length ≤ k ∧ Hid (wr.ownsRow W.heap.size 72 2 v H.length (H.flatMap Mt.enc2)) ∧ Below W.heap.size W wr) (fun _ i _ => l.length - (intOf i).toNat)
  case atStart => exact ⟨0, [], Nat.zero_le _, rfl, Lib.hid rfl, Nat.le_refl _, Lib.hid (World.ownsRow_nil _ _ _ _), Below.refl _ _⟩
  case round =>
    obtain ⟨k, H, hk, rfl, hH, hHk, hown, hb⟩ := hrel
    have hbs := hb.size
    have hl0 : w.heap.size + 1 < wr.heap.size := by have := HWS.out; omega
    by_cases hlt : k < l.length
    · obtain ⟨x, hx⟩ : ∃ x, l[k]? = some x := ⟨_, List.getElem?_eq_getElem hlt⟩
      obtain ⟨b, o, fa, fc, rfl, hbl, x0, x1, x2, x3, x4, hfx⟩ := HL.out.get hx
      replace x0 := cell_later hb x0
      replace x1 := cell_later hb x1
      replace x2 := cell_later hb x2
      replace x3 := cell_later hb x3
      replace x4 := cell_later hb x4
      have hst := Mt.hitsF_succ m r hx
      rw [← hH.out] at hst
      unfold Mt.hitS at hst
      obtain ⟨U, hU⟩ : ∃ U, wr.alloc (.cells #[.int .i64 x.id, .int .i64 x.ver, .int .i64 x.kind, .string x.lang, .slice fa x.fields.length fc] 33) = U := ⟨_, rfl⟩
      have hbU : Below W.heap.size W U := by rw [← hU]; exact hb.alloc hbs _
      have hbUs := hbU.size
      have y0 : U.cell? ⟨wr.heap.size, 0, none⟩ = some (.int .i64 x.id) := by rw [← hU]; simp
      have y1 : U.cell? ⟨wr.heap.size, 1, none⟩ = some (.int .i64 x.ver) := by rw [← hU]; simp
      have y2 : U.cell? ⟨wr.heap.size, 2, none⟩ = some (.int .i64 x.kind) := by rw [← hU]; simp
      have y3 : U.cell? ⟨wr.heap.size, 3, none⟩ = some (.string x.lang) := by rw [← hU]; simp
      have y4 : U.cell? ⟨wr.heap.size, 4, none⟩ = some (.slice fa x.fields.length fc) := by rw [← hU]; simp
      have u0 := cell_later hbU m0
      have u1 := cell_later hbU m1
      have v0 := cell_later hbU r0
      have v1 := cell_later hbU r1
      have v2 := cell_later hbU r2
      have v3 := cell_later hbU r3
      have v4 := cell_later hbU r4
      have hoU := hown.out.alloc (.cells #[.int .i64 x.id, .int .i64 x.ver, .int .i64 x.kind, .string x.lang, .slice fa x.fields.length fc] 33)
      rw [hU] at hoU
      have SC := match_Score_c m ka kc x.fields fa fc x.id x.ver x.kind x.lang r.fields ra rc r.id r.ver r.kind r.lang U (HGW.out.below hbU) (HK.out.below hbU) HM.out (hfx.below hbU) (HG.out x (List.mem_of_getElem? hx)) (HR.out.below hbU) HGR.out
      rw [← Mt.score_sum m x r] at SC
      obtain ⟨sc, hsc⟩ : ∃ sc, Mt.score m x r = sc := ⟨_, rfl⟩
      rw [hsc] at SC hst
      have HSC := Lib.hid SC
      have HOU := Lib.hid hoU
      clear SC hoU hsc hx hfx hH hown
      by_cases hid : x.id = r.id
      · rw [if_neg (fun h9 => h9.1 hid), List.append_nil] at hst
        have HS := Lib.hid hst.symm
        have hq : (x.id != r.id) = false := by rw [hid]; simp
        clear hst hid
        go_wp2_with (go_at_call 19; ((with_reducible refine HSC.out.mono ?_); rintro e w7 ⟨rfl, hb7⟩; have z0 := cell_later hb7 y0; have z1 := cell_later hb7 v0))
        go_roundw
        case rel => exact ⟨k + 1, H, hlt, by go_num, HS, by omega, Lib.hid (own_below HOU.out hb7), Tx.step hbU hb7⟩
        case measure => simp [intOf]; omega
      · have hq : (x.id != r.id) = true := bne_iff_ne.2 hid
        by_cases hnd : m.need ≤ sc
        · rw [if_pos ⟨hid, hnd⟩] at hst
          have HS := Lib.hid hst.symm
          have hnd2 : sc ≥ m.need := hnd
          clear hst hid
          go_wp2_with (first
            | (go_at_call 19; ((with_reducible refine HSC.out.mono ?_); rintro e w7 ⟨rfl, hb7⟩; have z0 := cell_later hb7 y0; have z1 := cell_later hb7 v0; have z2 := cell_later hb7 u1; have own7 := own_below HOU.out hb7; have hb7W := Tx.step hbU hb7; have s7 := hb7W.size))
            | (at_builtin; go_must ((refine wpList_append_sl rfl _ _ 70 rfl W.heap.size 72 i0 _ 2 16 Tryz.underlying70 hi0 hz0 hz1 hz2 rfl (by decide) _ H.length _ rfl (own7.alloc _) (some ⟨_, 0, none⟩) 1 1 (Mt.enc2 (x.id, sc)) rfl rfl (fun h9 => by cases h9) (fun ad had => by cases had; exact Br.cells_new_at _ _ (by first | rfl | simp) _ _) (by simp [Value.oneCell', Mt.enc2]) (by unfold maxLen; omega) (by omega) (by simp; omega) ?_); intro v' w8 hown8 hg8 hnil8)))
          go_roundw
          case rel => exact ⟨k + 1, H ++ [(x.id, sc)], hlt, by go_num, HS, by simp; omega, Lib.hid (by rw [List.length_append, List.flatMap_append]; exact hown8), (hb7W.alloc s7 _).grown hg8 (by simp; omega) (fun i hi => (own7.lt i hi).1)⟩
          case measure => simp [intOf]; omega
        · rw [if_neg (fun h9 => hnd h9.2), List.append_nil] at hst
          have HS := Lib.hid hst.symm
          have hnd2 : ¬ sc ≥ m.need := hnd
          clear hst hid
          go_wp2_with (go_at_call 19; ((with_reducible refine HSC.out.mono ?_); rintro e w7 ⟨rfl, hb7⟩; have z0 := cell_later hb7 y0; have z1 := cell_later hb7 v0; have z2 := cell_later hb7 u1))
          go_roundw
          case rel => exact ⟨k + 1, H, hlt, by go_num, HS, by omega, Lib.hid (own_below HOU.out hb7), Tx.step hbU hb7⟩
          case measure => simp [intOf]; omega
    · obtain rfl : k = l.length := by omega
      have hHe : H = Mt.hitsF m l r := by rw [hH.out, List.take_length]
      have hSF := SortF_c hown.out (by omega) (by rw [hHe]; exact Mt.hitsF_nodup m r HN.out)
      have hlen : (Cp.puts Mt.ltF H).length = H.length := Mt.puts_len_nodup Mt.ordF (by rw [hHe]; exact Mt.hitsF_nodup m r HN.out)
      have HF : Hid ((Cp.puts Mt.ltF H).map (·.1) = Mt.find m l r) := Lib.hid (by rw [hHe]; rfl)
      obtain ⟨S, hS⟩ : ∃ S, Cp.puts Mt.ltF H = S := ⟨_, rfl⟩
      rw [hS] at hSF hlen HF
      have HSF := Lib.hid hSF
      have HO := Lib.hid hown.out
      clear hSF hS hHe hH hown
      go_wp2_with (go_at_call 44; ((with_reducible refine HSF.out.mono ?_); rintro e w6 ⟨rfl, hown6, hg6⟩; have hb6 := hb.grown hg6 hbs (fun i hi => (HO.out.lt i hi).1); obtain ⟨sa, sc, rfl, hfa, _⟩ := Br.FA.of_own Mt.enc2_len hown6 hlen.symm; rw [hlen]; have HFA := Lib.hid hfa; clear hfa hown6 hg6))
      have hcap2 := HFA.out.cap
      have hmax2 := HFA.out.max
      rw [hlen] at hcap2
      have hb6s := hb6.size
      have HLEN := Lib.hid hlen
      clear hlen hb
      go_loopw [11, 47] (fun v i wr => ∃ (k : Nat), k ≤ H.length ∧ i = .int .i64 k ∧ Hid (Mt.OwnI wr w6.heap.size v ((S.take k).map (·.1))) ∧ Below w6.heap.size w6 wr) (fun _ i _ => H.length - (intOf i).toNat)
      case atStart => exact ⟨0, Nat.zero_le _, rfl, Lib.hid (World.ownsRow_nil _ _ _ _), Below.refl _ _⟩
      case round =>
        obtain ⟨k, hk, rfl, hown2, hb7⟩ := hrel
        have hb7s := hb7.size
        by_cases hlt : k < H.length
        · obtain ⟨p, hp⟩ : ∃ p, S[k]? = some p := ⟨_, List.getElem?_eq_getElem (by rw [HLEN.out]; exact hlt)⟩
          obtain ⟨b, o, rfl, hbl, hc⟩ := (HFA.out.below hb7).get hp
          have c0 := hc 0 _ rfl
          have c1 := hc 1 _ rfl
          rw [Nat.add_zero] at c0
          have htk : (S.take (k + 1)).map (·.1) = (S.take k).map (·.1) ++ [p.1] := by rw [List.take_add_one, hp, List.map_append]; rfl
          have hkl : ((S.take k).map (·.1)).length = k := by rw [List.length_map, List.length_take, HLEN.out]; omega
          obtain ⟨L, hL⟩ : ∃ L, (S.take k).map (·.1) = L := ⟨_, rfl⟩
          rw [hL] at htk hkl hown2
          have HT := Lib.hid htk
          have HKL := Lib.hid hkl
          have HO2 := Lib.hid (hown2.out.alloc (.cells #[.int .i64 p.1, .int .i64 p.2] 72))
          clear htk hkl hL hc hp hown2
          go_wp2_with (at_builtin; go_must ((refine wpList_append_sl rfl _ _ 46 rfl w6.heap.size 3 i1 _ 1 8 Tryz.underlying46 hi1 hy0 hy1 hy2 rfl (by decide) _ L.length _ rfl (HO2.out.alloc _) (some ⟨_, 0, none⟩) 1 1 [Value.int .i64 p.1] rfl rfl (fun h9 => by cases h9) (fun ad had => by cases had; exact Br.cells_new_at _ _ (by first | rfl | simp) _ _) (by simp [Value.oneCell']) (by unfold maxLen; have := HKL.out; omega) (by have := HKL.out; omega) (by simp; omega) ?_); intro v' w8 hown8 hg8 hnil8))
          go_roundw
          case rel => exact ⟨k + 1, hlt, by go_num, Lib.hid (by unfold Mt.OwnI; rw [HT.out, List.length_append, List.map_append]; exact hown8), ((hb7.alloc hb7s _).alloc (by simp; omega) _).grown hg8 (by simp; omega) (fun i hi => (HO2.out.lt i hi).1)⟩
          case measure => simp [intOf]; omega
        · obtain rfl : k = H.length := by omega
          have hfin : (S.take H.length).map (·.1) = Mt.find m l r := by rw [← HLEN.out, List.take_length]; exact HF.out
          have HFIN := Lib.hid hfin
          clear hfin
          go_wp2
          go_ret
          exact ⟨_, rfl, Mt.ownI_le (by rw [← HFIN.out]; exact hown2.out) (by have := HWS.out; omega), Tx.step hB (Tx.step hb6 hb7)⟩
end Go.Proofs.YtogpghpgnpoioaaGreatDoor
