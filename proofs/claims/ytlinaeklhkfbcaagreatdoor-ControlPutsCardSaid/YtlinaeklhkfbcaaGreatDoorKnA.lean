/- The rules and the kinds of tags: what the calls return. -/
import Derived.Test.YtlinaeklhkfbcaaGreatDoorClA
import Derived.Test.YtlinaeklhkfbcaaGreatDoorRcC
import Derived.Test.YtlinaeklhkfbcaaGreatDoorKdA
namespace Go.Proofs.YtlinaeklhkfbcaaGreatDoor
open Go.RowKit
set_option maxRecDepth 100000

theorem Tx.set7 {B g : Nat} {w wr : World} (h : Below B w wr) (hg : B ≤ g) (v0 v1 v2 v3 v4 v5 v6 : Value) :
    Below B w (((((((wr.setCell ⟨g, 0, none⟩ v0).setCell ⟨g, 1, none⟩ v1).setCell ⟨g, 2, none⟩ v2).setCell ⟨g, 3, none⟩ v3).setCell ⟨g, 4, none⟩ v4).setCell ⟨g, 5, none⟩ v5).setCell ⟨g, 6, none⟩ v6) :=
  ((((((h.setCell hg _).setCell hg _).setCell hg _).setCell hg _).setCell hg _).setCell hg _).setCell hg _
namespace Ct
abbrev encT (r : TR) : List Value := [.string ⟨r.tag.toArray⟩, .bool r.rep, .bool r.must, .string ⟨r.codes.toArray⟩, .string ⟨r.once.toArray⟩, .string ⟨r.needs.toArray⟩, .int .i64 r.auth]
theorem encT_len (r : TR) : (encT r).length = 7 := rfl
theorem encT_one (r : TR) : ∀ u ∈ encT r, u.oneCell' = true := by simp [encT, Value.oneCell']
abbrev aggT (r : TR) : Value := .agg #[.string ⟨r.tag.toArray⟩, .bool r.rep, .bool r.must, .string ⟨r.codes.toArray⟩, .string ⟨r.once.toArray⟩, .string ⟨r.needs.toArray⟩, .int .i64 r.auth]
def zeroT : TR := ⟨[], false, false, [], [], [], 0⟩
def findT (rs : List TR) (t : List UInt8) : Option TR := rs.find? fun r => r.tag == t
theorem kind_find (t : List UInt8) : kindOf t = ((findT std t).getD zeroT).auth := by
  unfold kindOf findT
  cases std.find? (fun r => r.tag == t) <;> rfl
/-- The standard rules lie in the program's variable. -/
def StdW (w : World) : Prop := Br.FA encT 7 w (some ⟨0, 0, none⟩) 25 std
end Ct

set_option maxHeartbeats 400000 in
theorem rfind1_c (r : Ct.TR) (t : ByteArray) (p : Nat) (w : World) (hp : w.cell? ⟨p, 0, none⟩ = some (.string t)) :
    Calls Tryz.prog 76 #[Ct.aggT r, .pointer (some ⟨p, 0, none⟩)] w fun e w' => e = .returned (.bool (r.tag == t.data.toList)) ∧ Below w.heap.size w w' := by
  have hp2 := cell_later (Tx.newb w (.cells #[.string ⟨r.tag.toArray⟩, .bool r.rep, .bool r.must, .string ⟨r.codes.toArray⟩, .string ⟨r.once.toArray⟩, .string ⟨r.needs.toArray⟩, .int .i64 r.auth] 79)) hp
  go_enter Tryz.func76, Tryz.ntmps76
  go_wp2
  go_ret
  exact ⟨Tx.retb (by rw [Lib.toList_data]), Tx.newb _ _⟩

set_option maxHeartbeats 800000 in
theorem idxTR_c (xs : List Ct.TR) (a : Option Addr) (c : Nat) (t : ByteArray) (p : Nat) (w : World) (h : Br.FA Ct.encT 7 w a c xs) (hp : w.cell? ⟨p, 0, none⟩ = some (.string t)) :
    Calls Tryz.prog 75 #[.slice a xs.length c, .func (.func 76) #[] #[.pointer (some ⟨p, 0, none⟩)]] w fun e w' => e = .returned (.int .i64 (Rc.idxF (fun x => x.tag == t.data.toList) 0 xs)) ∧ Below w.heap.size w w' := by
  have hcap := h.cap
  have hmax := h.max
  go_enter Tryz.func75, Tryz.ntmps75
  go_wp2
  go_loopw [5, 8] (fun _ i wr => ∃ (k : Nat), k ≤ xs.length ∧ i = .int .i64 k ∧ Hid (Rc.idxF (fun x => x.tag == t.data.toList) k (xs.drop k) = Rc.idxF (fun x => x.tag == t.data.toList) 0 xs) ∧ Below w.heap.size w wr) (fun _ i _ => xs.length - (intOf i).toNat)
  case atStart => exact ⟨0, Nat.zero_le _, rfl, Lib.hid (by rw [List.drop_zero]), Below.refl _ _⟩
  case round =>
    obtain ⟨k, hk, rfl, hI, hb⟩ := hrel
    by_cases hlt : k < xs.length
    · obtain ⟨x, hx⟩ : ∃ x, xs[k]? = some x := ⟨_, List.getElem?_eq_getElem hlt⟩
      obtain ⟨b, o, rfl, hbl, hc⟩ := h.get hx
      have c0 := cell_later hb (hc 0 _ rfl)
      have c1 := cell_later hb (hc 1 _ rfl)
      have c2 := cell_later hb (hc 2 _ rfl)
      have c3 := cell_later hb (hc 3 _ rfl)
      have c4 := cell_later hb (hc 4 _ rfl)
      have c5 := cell_later hb (hc 5 _ rfl)
      have c6 := cell_later hb (hc 6 _ rfl)
      rw [Nat.add_zero] at c0
      clear hc
      have hp1 := cell_later hb hp
      have hst := Rc.idxF_step (fun x => x.tag == t.data.toList) hx
      rw [hI.out] at hst
      have hmx : maxLen = 9223372036854775807 := rfl
      cases hq : (x.tag == t.data.toList) with
      | true =>
        simp only [hq, if_true] at hst
        have HS := Lib.hid hst; clear hst
        have HQ := Lib.hid hq; clear hq
        go_wp2_with (go_at_call 76; refine (rfind1_c x t p _ hp1).mono ?_; rintro e w1 ⟨rfl, hb1⟩; rw [HQ.out])
        go_ret
        exact ⟨Tx.ret1 HS.out.symm, Tx.step hb hb1⟩
      | false =>
        simp only [hq, Bool.false_eq_true, if_false] at hst
        have HS := Lib.hid hst; clear hst
        have HQ := Lib.hid hq; clear hq
        go_wp2_with (go_at_call 76; refine (rfind1_c x t p _ hp1).mono ?_; rintro e w1 ⟨rfl, hb1⟩; rw [HQ.out])
        go_roundw
        case rel => exact ⟨k + 1, by omega, by go_num, Lib.hid HS.out.symm, Tx.step hb hb1⟩
        case measure => simp [intOf]; omega
    · obtain rfl : k = xs.length := by omega
      have hI2 := hI.out
      rw [List.drop_length] at hI2
      have HI := Lib.hid hI2; clear hI2 hI
      go_wp2
      go_ret
      exact ⟨Tx.ret1 (by rw [← HI.out]; rfl), hb⟩

set_option maxHeartbeats 1600000 in
theorem rules_Find_c (xs : List Ct.TR) (a : Option Addr) (c : Nat) (t : ByteArray) (w : World) (h : Br.FA Ct.encT 7 w a c xs) :
    Calls Tryz.prog 47 #[.slice a xs.length c, .string t] w fun e w' => e = .returned (.tuple #[Ct.aggT ((Ct.findT xs t.data.toList).getD Ct.zeroT), .bool (Ct.findT xs t.data.toList).isSome]) ∧ Below w.heap.size w w' := by
  obtain ⟨W, hW⟩ : ∃ W, (w.alloc (.cells #[.string t] 9)).alloc (.cells #[.string ⟨#[]⟩, .bool false, .bool false, .string ⟨#[]⟩, .string ⟨#[]⟩, .string ⟨#[]⟩, .int .i64 0] 79) = W := ⟨_, rfl⟩
  have hB : Below w.heap.size w W := by rw [← hW]; exact (Tx.newb _ _).alloc (Tx.newb w _).size _
  have hp : W.cell? ⟨w.heap.size, 0, none⟩ = some (.string t) := by rw [← hW]; simp
  have hblk : W.heap[w.heap.size + 1]? = some (.cells #[.string ⟨#[]⟩, .bool false, .bool false, .string ⟨#[]⟩, .string ⟨#[]⟩, .string ⟨#[]⟩, .int .i64 0] 79 (0, 0)) := by
    rw [← hW]
    have := heap_alloc_new (w.alloc (.cells #[.string t] 9)) (.cells #[.string ⟨#[]⟩, .bool false, .bool false, .string ⟨#[]⟩, .string ⟨#[]⟩, .string ⟨#[]⟩, .int .i64 0] 79)
    simpa using this
  have h1 := h.below hB
  have HW := Lib.hid hW; clear hW
  have hcap := h.cap
  have hmax := h.max
  have hmx : maxLen = 9223372036854775807 := rfl
  cases hf : xs.find? (fun x => x.tag == t.data.toList) with
  | none =>
    have hI := Rc.idxF_none xs 0 hf
    have hG : Ct.findT xs t.data.toList = none := hf
    have HI := Lib.hid hI; clear hI
    have HG := Lib.hid hG; clear hG hf
    go_enter Tryz.func47, Tryz.ntmps47
    go_wp2_with (go_at_call 75; rw [HW.out]; refine (idxTR_c xs a c t _ _ h1 hp).mono ?_; rintro e w1 ⟨rfl, hb1⟩; rw [HI.out]; obtain ⟨hc, hf, hlt⟩ := Tx.blk (Tx.blk_later hblk hb1))
    refine bodyPost_ret (v := .tuple #[Ct.aggT Ct.zeroT, .bool false]) (by simp [results, Tryz.results47, go_sem, hc, Ct.zeroT]) rfl ⟨by rw [HG.out]; rfl, Tx.set7 (Tx.step hB hb1) (by omega) _ _ _ _ _ _ _⟩
  | some y =>
    obtain ⟨j, hI, hj⟩ := Rc.idxF_some xs 0 hf
    rw [Nat.zero_add] at hI
    have hG : Ct.findT xs t.data.toList = some y := hf
    have hjl : j < xs.length := (List.getElem?_eq_some_iff.1 hj).1
    obtain ⟨b, o, rfl, hbl, hc⟩ := h1.get hj
    have HI := Lib.hid hI; clear hI
    have HG := Lib.hid hG; clear hG hf
    go_enter Tryz.func47, Tryz.ntmps47
    have c0 := hc 0 _ rfl
    have c1 := hc 1 _ rfl
    have c2 := hc 2 _ rfl
    have c3 := hc 3 _ rfl
    have c4 := hc 4 _ rfl
    have c5 := hc 5 _ rfl
    have c6 := hc 6 _ rfl
    rw [Nat.add_zero] at c0
    clear hc
    go_wp2_with (go_at_call 75; rw [HW.out]; refine (idxTR_c xs _ c t _ _ h1 hp).mono ?_; rintro e w1 ⟨rfl, hb1⟩; rw [HI.out]; obtain ⟨hc, hf, hlt⟩ := Tx.blk (Tx.blk_later hblk hb1); have d0 := cell_later hb1 c0; have d1 := cell_later hb1 c1; have d2 := cell_later hb1 c2; have d3 := cell_later hb1 c3; have d4 := cell_later hb1 c4; have d5 := cell_later hb1 c5; have d6 := cell_later hb1 c6)
    refine bodyPost_ret (v := .tuple #[Ct.aggT y, .bool true]) (by simp [results, Tryz.results47, go_sem, hc]) rfl ⟨by rw [HG.out]; rfl, Tx.set7 (Tx.step hB hb1) (by omega) _ _ _ _ _ _ _⟩

theorem Ct.std_len : Ct.std.length = 25 := rfl
set_option maxHeartbeats 800000 in
theorem rules_Standard_c (w : World) (h : Ct.StdW w) :
    Calls Tryz.prog 48 #[] w fun e w' => ∃ a c, e = .returned (.slice a Ct.std.length c) ∧ Br.FA Ct.encT 7 w' a c Ct.std ∧ Below w.heap.size w w' := by
  go_enter Tryz.func48, Tryz.ntmps48
  go_wp2_with (go_at_call 77; refine (CloneTR_c Ct.encT_len Ct.encT_one Ct.std _ 25 _ h (by decide)).mono ?_; rintro e w1 ⟨v, rfl, hown, hb1⟩)
  go_ret
  obtain ⟨a, c, rfl, hF, _⟩ := Br.FA.of_own Ct.encT_len hown rfl
  exact ⟨a, c, rfl, hF, hb1⟩

set_option maxHeartbeats 800000 in
theorem control_Kind_c (t : ByteArray) (w : World) (h : Ct.StdW w) :
    Calls Tryz.prog 25 #[.string t] w fun e w' => e = .returned (.int .i64 (Ct.kindOf t.data.toList)) ∧ Below w.heap.size w w' := by
  have hk := Ct.kind_find t.data.toList
  obtain ⟨y, hy⟩ : ∃ y, (Ct.findT Ct.std t.data.toList).getD Ct.zeroT = y := ⟨_, rfl⟩
  rw [hy] at hk
  have HY := Lib.hid hy; clear hy
  go_enter Tryz.func25, Tryz.ntmps25
  go_wp2_with (first
    | (go_at_call 48; refine (rules_Standard_c _ h).mono ?_; rintro e w1 ⟨a, c, rfl, hF, hb1⟩)
    | (go_at_call 47; refine (rules_Find_c Ct.std a c t _ hF).mono ?_; rintro e w2 ⟨rfl, hb2⟩; rw [HY.out]))
  go_ret
  exact ⟨Tx.ret1 hk.symm, (Tx.step hb1 hb2).alloc (Tx.step hb1 hb2).size _⟩

end Go.Proofs.YtlinaeklhkfbcaaGreatDoor
