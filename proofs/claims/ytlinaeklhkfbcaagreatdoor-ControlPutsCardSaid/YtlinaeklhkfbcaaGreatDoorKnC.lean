/- The reference's kinds of tags: what the calls return. -/
import Derived.Test.YtlinaeklhkfbcaaGreatDoorKnB
namespace Go.Proofs.YtlinaeklhkfbcaaGreatDoor
open Go.RowKit
set_option maxRecDepth 100000

namespace Ct
theorem findT_none : ∀ (xs : List TR) (t : List UInt8), (∀ x ∈ xs, ¬ x.tag = t) → findT xs t = none
  | xs, t, h => by
    unfold findT
    rw [List.find?_eq_none]
    intro x hx
    simpa using h x hx
theorem findT_at {xs : List TR} {t : List UInt8} {k : Nat} {x : TR} (hp : ∀ y ∈ xs.take k, ¬ y.tag = t) (hx : xs[k]? = some x) (e : x.tag = t) : findT xs t = some x := by
  unfold findT
  have hk : k < xs.length := (List.getElem?_eq_some_iff.1 hx).1
  have h1 : xs = xs.take k ++ x :: xs.drop (k + 1) := by
    have := (List.getElem?_eq_some_iff.1 hx).2
    rw [← this, ← List.drop_eq_getElem_cons hk, List.take_append_drop]
  rw [h1, List.find?_append]
  have : (xs.take k).find? (fun r => r.tag == t) = none := by
    rw [List.find?_eq_none]
    intro y hy
    simpa using hp y hy
  rw [this]
  simp [e]
theorem toList_eq_iff (l : List UInt8) (t : ByteArray) : ((⟨l.toArray⟩ : ByteArray) = t) ↔ l = t.data.toList := by
  constructor
  · intro h; rw [← h]
  · intro h; rw [h]
end Ct

set_option maxHeartbeats 1600000 in
theorem r09_Find_c (xs : List Ct.TR) (a : Option Addr) (c : Nat) (t : ByteArray) (w : World) (h : Br.FA Ct.encT 7 w a c xs) :
    Calls Tryz.prog 67 #[.slice a xs.length c, .string t] w fun e w' => e = .returned (.tuple #[Ct.aggT ((Ct.findT xs t.data.toList).getD Ct.zeroT), .bool (Ct.findT xs t.data.toList).isSome]) ∧ Below w.heap.size w w' := by
  obtain ⟨W, hW⟩ : ∃ W, w.alloc (.cells #[.string ⟨#[]⟩, .bool false, .bool false, .string ⟨#[]⟩, .string ⟨#[]⟩, .string ⟨#[]⟩, .int .i64 0] 79) = W := ⟨_, rfl⟩
  have hB : Below w.heap.size w W := by rw [← hW]; exact Tx.newb _ _
  have hblk : W.heap[w.heap.size]? = some (.cells #[.string ⟨#[]⟩, .bool false, .bool false, .string ⟨#[]⟩, .string ⟨#[]⟩, .string ⟨#[]⟩, .int .i64 0] 79 (0, 0)) := by
    rw [← hW]
    exact heap_alloc_new _ _
  have h1 := h.below hB
  have hcap := h.cap
  have hmax := h.max
  have hmx : maxLen = 9223372036854775807 := rfl
  obtain ⟨hcc, hff, hltt⟩ := Tx.blk hblk
  go_enter Tryz.func67, Tryz.ntmps67
  go_wp2
  clear hW
  go_loopw [6] (fun i wr => ∃ (k : Nat), k ≤ xs.length ∧ i = .int .i64 k ∧ W = wr ∧ Hid (∀ y ∈ xs.take k, ¬ y.tag = t.data.toList)) (fun i _ => xs.length - (intOf i).toNat)
  case atStart => exact ⟨0, Nat.zero_le _, rfl, rfl, Lib.hid (by simp)⟩
  case round =>
    obtain ⟨k, hk, rfl, rfl, hP⟩ := hrel
    by_cases hlt : k < xs.length
    · obtain ⟨x, hx⟩ : ∃ x, xs[k]? = some x := ⟨_, List.getElem?_eq_getElem hlt⟩
      obtain ⟨b, o, rfl, hbl, hc⟩ := h1.get hx
      have c0 := hc 0 _ rfl
      rw [Nat.add_zero] at c0
      by_cases he : x.tag = t.data.toList
      · have hfd := Ct.findT_at hP.out hx he
        have HF := Lib.hid hfd; clear hfd
        have c1 := hc 1 _ rfl
        have c2 := hc 2 _ rfl
        have c3 := hc 3 _ rfl
        have c4 := hc 4 _ rfl
        have c5 := hc 5 _ rfl
        have c6 := hc 6 _ rfl
        have e1 : (⟨x.tag.toArray⟩ : ByteArray) = t := (Ct.toList_eq_iff _ _).2 he
        rw [e1] at c0
        clear hc
        go_wp2
        refine bodyPost_ret (v := .tuple #[Ct.aggT x, .bool true]) (by simp [results, Tryz.results67, go_sem, hcc, e1]) rfl ⟨by rw [HF.out]; rfl, Tx.set7 hB (Nat.le_refl _) _ _ _ _ _ _ _⟩
      · have e1 : ¬ (⟨x.tag.toArray⟩ : ByteArray) = t := fun e => he ((Ct.toList_eq_iff _ _).1 e)
        have e2 : (x.tag == t.toList) = false := by rw [Lib.toList_data]; simpa using he
        have hP2 : Hid (∀ y ∈ xs.take (k + 1), ¬ y.tag = t.data.toList) := Lib.hid (by
          intro y hy
          rw [List.take_add_one, hx] at hy
          rcases List.mem_append.1 hy with h9 | h9
          · exact hP.out y h9
          · simp at h9; rw [h9]; exact he)
        clear hc he
        go_wp2
        go_roundw
        case rel => exact ⟨k + 1, by omega, by go_num, by first | rfl | trivial, hP2⟩
        case measure => simp [intOf]; omega
    · obtain rfl : k = xs.length := by omega
      have hfd := Ct.findT_none xs t.data.toList (by rw [← List.take_length (l := xs)]; exact hP.out)
      have HF := Lib.hid hfd; clear hfd
      go_wp2
      refine bodyPost_ret (v := .tuple #[Ct.aggT Ct.zeroT, .bool false]) (by simp [results, Tryz.results67, go_sem, hcc, Ct.zeroT]) rfl ⟨by rw [HF.out]; rfl, Tx.set7 hB (Nat.le_refl _) _ _ _ _ _ _ _⟩

set_option maxHeartbeats 800000 in
theorem r14_Kind_c (t : ByteArray) (w : World) :
    Calls Tryz.prog 33 #[.string t] w fun e w' => e = .returned (.int .i64 (Ct.kindOf t.data.toList)) ∧ Below w.heap.size w w' := by
  have hk := Ct.kind_find t.data.toList
  cases hf : Ct.findT Ct.std t.data.toList with
  | none =>
    rw [hf] at hk
    have HF := Lib.hid hf; clear hf
    go_enter Tryz.func33, Tryz.ntmps33
    go_wp2_with (first
      | (go_at_call 68; refine (r09_Standard_c _).mono ?_; rintro e w1 ⟨a, c, rfl, hF, hb1⟩)
      | (go_at_call 67; refine (r09_Find_c Ct.std a c t _ hF).mono ?_; rintro e w2 ⟨rfl, hb2⟩; rw [HF.out]))
    go_ret
    exact ⟨Tx.ret1 hk.symm, (Tx.step hb1 hb2).alloc (Tx.step hb1 hb2).size _⟩
  | some y =>
    rw [hf] at hk
    have HF := Lib.hid hf; clear hf
    go_enter Tryz.func33, Tryz.ntmps33
    go_wp2_with (first
      | (go_at_call 68; refine (r09_Standard_c _).mono ?_; rintro e w1 ⟨a, c, rfl, hF, hb1⟩)
      | (go_at_call 67; refine (r09_Find_c Ct.std a c t _ hF).mono ?_; rintro e w2 ⟨rfl, hb2⟩; rw [HF.out]))
    go_ret
    exact ⟨Tx.ret1 hk.symm, (Tx.step hb1 hb2).alloc (Tx.step hb1 hb2).size _⟩
end Go.Proofs.YtlinaeklhkfbcaaGreatDoor
