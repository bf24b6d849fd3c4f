/- Plain: the chapter's examples of control, worked out; no program stands in this file. -/
import Derived.Test.YtlinaeklhkfbcaaGreatDoorAuM
import Derived.Test.YtlinaeklhkfbcaaGreatDoorPrM
import Derived.Test.YtlinaeklhkfbcaaGreatDoorLoM
namespace Go.Proofs.YtlinaeklhkfbcaaGreatDoor
set_option maxRecDepth 100000
namespace Al
open Rc
def fp : Fl := ⟨⟨#[49, 48, 48]⟩, ⟨#[49, 32]⟩, [(97, ⟨#[83, 109, 105, 116, 104, 44, 32, 65, 110, 110]⟩), (100, ⟨#[49, 57, 53, 48, 45]⟩), (52, ⟨#[97, 117, 116]⟩)], 0⟩
def fs : Fl := ⟨⟨#[54, 53, 48]⟩, ⟨#[32, 48]⟩, [(97, ⟨#[68, 111, 103, 115]⟩), (120, ⟨#[72, 105, 115, 116, 111, 114, 121]⟩)], 0⟩
def fp2 : Fl := ⟨⟨#[49, 48, 48]⟩, ⟨#[49, 32]⟩, [(97, ⟨#[76, 101, 101, 44, 32, 66, 111]⟩), (100, ⟨#[49, 57, 54, 48, 45]⟩), (52, ⟨#[97, 117, 116]⟩)], 0⟩
def fs2 : Fl := ⟨⟨#[54, 53, 48]⟩, ⟨#[32, 48]⟩, [(97, ⟨#[67, 97, 116, 115]⟩), (120, ⟨#[67, 97, 114, 101]⟩), (120, ⟨#[71, 101, 114, 109, 97, 110, 121]⟩)], 0⟩
theorem kind_100 : Ct.kindOf [49, 48, 48] = 1 := by decide +kernel
theorem kind_245 : Ct.kindOf [50, 52, 53] = 0 := by decide +kernel
theorem good_list {l : List (UInt8 × ByteArray)} (h : ∀ x ∈ l, x.2.size ≤ 100000 ∧ Tx.valid x.2.data.toList = true) (hl : l.length ≤ 1000) (t i : ByteArray) (a : Int) : Gd ⟨t, i, l, a⟩ := ⟨hl, h⟩
theorem fp_good : Gd fp := good_list (by decide +kernel) (by decide) _ _ _
theorem fs_good : Gd fs := good_list (by decide +kernel) (by decide) _ _ _
theorem fd_good : Gd fd := good_list (by decide +kernel) (by decide) _ _ _
theorem head_fp : (⟨(Ct.headingF fp).toArray⟩ : ByteArray) = ⟨#[83, 109, 105, 116, 104, 44, 32, 65, 110, 110, 44, 32, 49, 57, 53, 48, 45]⟩ := by
  rw [Ct.heading_1s (f := fp) (d := ⟨#[49, 57, 53, 48, 45]⟩) kind_100 rfl]
  rfl
theorem head_fs : (⟨(Ct.headingF fs).toArray⟩ : ByteArray) = ⟨#[68, 111, 103, 115, 45, 45, 72, 105, 115, 116, 111, 114, 121]⟩ := by
  rw [Ct.heading_3 (f := fs) kind_650]
  rfl
theorem head_fd : (⟨(Ct.headingF fd).toArray⟩ : ByteArray) = ⟨#[68, 111, 103, 115]⟩ := by
  rw [Ct.heading_3 (f := fd) kind_650]
  rfl
theorem put_fp : Ct.putF fp [76, 101, 101, 44, 32, 66, 111, 44, 32, 49, 57, 54, 48, 45] = fp2 := by
  have hn : Ct.name [76, 101, 101, 44, 32, 66, 111, 44, 32, 49, 57, 54, 48, 45] = some ([76, 101, 101], [66, 111], [49, 57, 54, 48, 45]) := by decide +kernel
  rw [Ct.putF_subs (f := fp) kind_100 (by decide), Ct.heads_first hn (by decide) (by decide)]
  rfl
theorem put_fs : Ct.putF fs [67, 97, 116, 115, 45, 45, 67, 97, 114, 101, 45, 45, 71, 101, 114, 109, 97, 110, 121] = fs2 := by
  have h1 : Hd.parts [67, 97, 116, 115, 45, 45, 67, 97, 114, 101, 45, 45, 71, 101, 114, 109, 97, 110, 121] = [[67, 97, 116, 115], [67, 97, 114, 101], [71, 101, 114, 109, 97, 110, 121]] := by decide +kernel
  rw [Ct.putF_subs (f := fs) kind_650 (by decide), Ct.heads_3, h1]
  rfl
theorem okf_of {f : Fl} (hg : Gd f) (h1 : f.tag.data.toList.length = 3) (h2 : f.subs.length ≤ 16) (h3 : f.ind.data.toList.length = 2) (h4 : ∀ x ∈ f.subs, codeB x.1 = true ∧ x.2.data.toList ≠ [] ∧ Tx.valid x.2.data.toList = true ∧ x.2.size ≤ 200) (h5 : 0 ≤ f.auth ∧ f.auth ≤ 9999) (h6 : tagOk f.tag.data.toList = true) (h7 : indOk f.ind.data.toList = true) : Okf f := ⟨hg, h1, h2, h3, h4, h5, h6, h7⟩
theorem fp2_ok : Okf fp2 := okf_of (good_list (by decide +kernel) (by decide) _ _ _) (by decide) (by decide) (by decide) (by decide +kernel) (by decide) (by decide) (by decide)
theorem fs2_ok : Okf fs2 := okf_of (good_list (by decide +kernel) (by decide) _ _ _) (by decide) (by decide) (by decide) (by decide +kernel) (by decide) (by decide) (by decide)
theorem fp2_ind : (Lib.replaceAll fp2.ind.data.toList [32] [48]).all digB = true ∧ (Lib.replaceAll fp2.ind.data.toList [32] [48]).length ≤ 1000 ∧ (Lib.replaceAll fp2.ind.data.toList [32] [35]).length ≤ 1000 := by decide +kernel
theorem fs2_ind : (Lib.replaceAll fs2.ind.data.toList [32] [48]).all digB = true ∧ (Lib.replaceAll fs2.ind.data.toList [32] [48]).length ≤ 1000 ∧ (Lib.replaceAll fs2.ind.data.toList [32] [35]).length ≤ 1000 := by decide +kernel
theorem fp2_val : ∀ x ∈ fp2.subs, (Lib.replaceAll x.2.data.toList [36] [36, 36]).length ≤ 1000 := by decide +kernel
theorem fs2_val : ∀ x ∈ fs2.subs, (Lib.replaceAll x.2.data.toList [36] [36, 36]).length ≤ 1000 := by decide +kernel
theorem line_fp : Rc.line fp2 = [49, 48, 48, 32, 49, 35, 32, 36, 97, 76, 101, 101, 44, 32, 66, 111, 36, 100, 49, 57, 54, 48, 45, 36, 52, 97, 117, 116] := by decide +kernel
theorem line_fs : Rc.line fs2 = [54, 53, 48, 32, 35, 48, 32, 36, 97, 67, 97, 116, 115, 36, 120, 67, 97, 114, 101, 36, 120, 71, 101, 114, 109, 97, 110, 121] := by decide +kernel
theorem loose_fh : Ct.looseAt 0 [fh 0] = [0] := by decide +kernel
end Al
end Go.Proofs.YtlinaeklhkfbcaaGreatDoor

/- Layer 14: the chapter's examples: what the call of alive returns. -/
namespace Go.Proofs.YtlinaeklhkfbcaaGreatDoor
open Go.RowKit
set_option maxRecDepth 100000

theorem Br.FA.lit {α : Type} {enc : α → List Value} {size : Nat} (hs : ∀ x, (enc x).length = size) {w : World} {b : Nat} {xs : List α} {t : TypeId} (h : w.heap[b]? = some (.cells (xs.flatMap enc).toArray t (0, 0))) (hl : xs.length ≤ 1000) : Br.FA enc size w (some ⟨b, 0, Option.none⟩) xs.length xs := by
  refine ⟨Nat.le_refl _, by unfold maxLen; omega, b, 0, fun _ => ⟨rfl, (Array.getElem?_eq_some_iff.1 h).1⟩, fun j i x u hx hu => ?_⟩
  rw [Nat.zero_add, (Tx.blk h).1, List.getElem?_toArray, Br.flat_at enc size hs xs j i x hx (by rw [← hs x]; exact (List.getElem?_eq_some_iff.1 hu).1), hu]
theorem Al.sub_lit {w : World} {b : Nat} {xs : List (UInt8 × ByteArray)} {t : TypeId} (h : w.heap[b]? = some (.cells (xs.flatMap Rc.encS).toArray t (0, 0))) (hl : xs.length ≤ 1000) : Rc.SubA w (some ⟨b, 0, none⟩) xs.length xs := .of_fa (Br.FA.lit Rc.encS_len h hl)
theorem Al.heap_at (w : World) (o : Obj) (k : Nat) (h : k < w.heap.size) : (w.alloc o).heap[k]? = w.heap[k]? := Below.heap_alloc w o k h

/-- The two fields of the chapter, as alive lays them. -/
theorem Al.lay1 (w : World) : ∃ W, (((w.alloc (.cells #[.int .u8 97, .string ⟨#[83, 109, 105, 116, 104, 44, 32, 65, 110, 110]⟩, .int .u8 100, .string ⟨#[49, 57, 53, 48, 45]⟩, .int .u8 52, .string ⟨#[97, 117, 116]⟩] 48)).alloc (.cells #[.string ⟨#[49, 48, 48]⟩, .string ⟨#[49, 32]⟩, .slice (some ⟨w.heap.size, 0, none⟩) 3 3, .int .i64 0] 24)).alloc (.cells #[.int .u8 97, .string ⟨#[68, 111, 103, 115]⟩, .int .u8 120, .string ⟨#[72, 105, 115, 116, 111, 114, 121]⟩] 48)).alloc (.cells #[.string ⟨#[54, 53, 48]⟩, .string ⟨#[32, 48]⟩, .slice (some ⟨w.heap.size + 1 + 1, 0, none⟩) 2 2, .int .i64 0] 24) = W ∧ Below w.heap.size w W ∧ W.heap[w.heap.size + 1]? = some (.cells #[.string ⟨#[49, 48, 48]⟩, .string ⟨#[49, 32]⟩, .slice (some ⟨w.heap.size, 0, none⟩) 3 3, .int .i64 0] 24 (0, 0)) ∧ W.heap[w.heap.size + 1 + 1 + 1]? = some (.cells #[.string ⟨#[54, 53, 48]⟩, .string ⟨#[32, 48]⟩, .slice (some ⟨w.heap.size + 1 + 1, 0, none⟩) 2 2, .int .i64 0] 24 (0, 0)) ∧ Rc.SubA W (some ⟨w.heap.size, 0, none⟩) 3 Al.fp.subs ∧ Rc.SubA W (some ⟨w.heap.size + 1 + 1, 0, none⟩) 2 Al.fs.subs := by
  obtain ⟨W1, hW1⟩ : ∃ W1, w.alloc (.cells (Al.fp.subs.flatMap Rc.encS).toArray 48) = W1 := ⟨_, rfl⟩
  obtain ⟨W2, hW2⟩ : ∃ W2, W1.alloc (.cells #[.string ⟨#[49, 48, 48]⟩, .string ⟨#[49, 32]⟩, .slice (some ⟨w.heap.size, 0, none⟩) 3 3, .int .i64 0] 24) = W2 := ⟨_, rfl⟩
  obtain ⟨W3, hW3⟩ : ∃ W3, W2.alloc (.cells (Al.fs.subs.flatMap Rc.encS).toArray 48) = W3 := ⟨_, rfl⟩
  obtain ⟨W, hW⟩ : ∃ W, W3.alloc (.cells #[.string ⟨#[54, 53, 48]⟩, .string ⟨#[32, 48]⟩, .slice (some ⟨w.heap.size + 1 + 1, 0, none⟩) 2 2, .int .i64 0] 24) = W := ⟨_, rfl⟩
  have z1 : W1.heap.size = w.heap.size + 1 := by rw [← hW1]; simp
  have z2 : W2.heap.size = w.heap.size + 1 + 1 := by rw [← hW2]; simp [z1]
  have z3 : W3.heap.size = w.heap.size + 1 + 1 + 1 := by rw [← hW3]; simp [z2]
  have k0 : W.heap[w.heap.size]? = some (.cells (Al.fp.subs.flatMap Rc.encS).toArray 48 (0, 0)) := by
    rw [← hW, Al.heap_at _ _ _ (by omega), ← hW3, Al.heap_at _ _ _ (by omega), ← hW2, Al.heap_at _ _ _ (by omega), ← hW1]
    exact heap_alloc_new w _
  have k1 : W.heap[w.heap.size + 1]? = some (.cells #[.string ⟨#[49, 48, 48]⟩, .string ⟨#[49, 32]⟩, .slice (some ⟨w.heap.size, 0, none⟩) 3 3, .int .i64 0] 24 (0, 0)) := by
    rw [← hW, Al.heap_at _ _ _ (by omega), ← hW3, Al.heap_at _ _ _ (by omega), ← hW2, ← z1]
    exact heap_alloc_new W1 _
  have k2 : W.heap[w.heap.size + 1 + 1]? = some (.cells (Al.fs.subs.flatMap Rc.encS).toArray 48 (0, 0)) := by
    rw [← hW, Al.heap_at _ _ _ (by omega), ← hW3, ← z2]
    exact heap_alloc_new W2 _
  have k3 : W.heap[w.heap.size + 1 + 1 + 1]? = some (.cells #[.string ⟨#[54, 53, 48]⟩, .string ⟨#[32, 48]⟩, .slice (some ⟨w.heap.size + 1 + 1, 0, none⟩) 2 2, .int .i64 0] 24 (0, 0)) := by
    rw [← hW, ← z3]
    exact heap_alloc_new W3 _
  refine ⟨W, by rw [← hW, ← hW3, ← hW2, ← hW1]; rfl, ?_, k1, k3, Al.sub_lit k0 (by decide), Al.sub_lit k2 (by decide)⟩
  rw [← hW, ← hW3, ← hW2, ← hW1]
  exact (((Tx.newb _ _).alloc (by simp) _).alloc (by simp; omega) _).alloc (by simp; omega) _

/-- The authority file and the record of the chapter, as alive lays them. -/
theorem Al.lay2 (w : World) : ∃ V, ((((w.alloc (.cells #[.string ⟨#[72, 111, 117, 110, 100, 115]⟩] 9)).alloc (.cells #[.int .i64 7, .int .i64 3, .string ⟨#[68, 111, 103, 115]⟩, .slice (some ⟨w.heap.size, 0, none⟩) 1 1, .slice none 0 0] 56)).alloc (.cells #[.int .u8 97, .string ⟨#[104, 111, 117, 110, 100, 115]⟩] 48)).alloc (.cells #[.string ⟨#[54, 53, 48]⟩, .string ⟨#[32, 48]⟩, .slice (some ⟨w.heap.size + 1 + 1, 0, none⟩) 1 1, .int .i64 0] 24)).alloc (.cells #[.int .i64 0, .int .i64 3, .int .i64 1, .string ⟨#[101, 110, 103]⟩, .slice (some ⟨w.heap.size + 1 + 1 + 1, 0, none⟩) 1 1] 38) = V ∧ Below w.heap.size w V ∧ Al.AuW V (w.heap.size + 1) w.heap.size ∧ Rc.FldA V (some ⟨w.heap.size + 1 + 1 + 1, 0, none⟩) 1 [Al.fh 0] ∧ V.heap[w.heap.size + 1 + 1 + 1 + 1]? = some (.cells #[.int .i64 0, .int .i64 3, .int .i64 1, .string ⟨#[101, 110, 103]⟩, .slice (some ⟨w.heap.size + 1 + 1 + 1, 0, none⟩) 1 1] 38 (0, 0)) := by
  obtain ⟨W1, hW1⟩ : ∃ W1, w.alloc (.cells #[.string ⟨#[72, 111, 117, 110, 100, 115]⟩] 9) = W1 := ⟨_, rfl⟩
  obtain ⟨W2, hW2⟩ : ∃ W2, W1.alloc (.cells #[.int .i64 7, .int .i64 3, .string ⟨#[68, 111, 103, 115]⟩, .slice (some ⟨w.heap.size, 0, none⟩) 1 1, .slice none 0 0] 56) = W2 := ⟨_, rfl⟩
  obtain ⟨W3, hW3⟩ : ∃ W3, W2.alloc (.cells #[.int .u8 97, .string ⟨#[104, 111, 117, 110, 100, 115]⟩] 48) = W3 := ⟨_, rfl⟩
  obtain ⟨W4, hW4⟩ : ∃ W4, W3.alloc (.cells #[.string ⟨#[54, 53, 48]⟩, .string ⟨#[32, 48]⟩, .slice (some ⟨w.heap.size + 1 + 1, 0, none⟩) 1 1, .int .i64 0] 24) = W4 := ⟨_, rfl⟩
  obtain ⟨V, hV⟩ : ∃ V, W4.alloc (.cells #[.int .i64 0, .int .i64 3, .int .i64 1, .string ⟨#[101, 110, 103]⟩, .slice (some ⟨w.heap.size + 1 + 1 + 1, 0, none⟩) 1 1] 38) = V := ⟨_, rfl⟩
  have z1 : W1.heap.size = w.heap.size + 1 := by rw [← hW1]; simp
  have z2 : W2.heap.size = w.heap.size + 1 + 1 := by rw [← hW2]; simp [z1]
  have z3 : W3.heap.size = w.heap.size + 1 + 1 + 1 := by rw [← hW3]; simp [z2]
  have z4 : W4.heap.size = w.heap.size + 1 + 1 + 1 + 1 := by rw [← hW4]; simp [z3]
  have k0 : V.heap[w.heap.size]? = some (.cells #[.string ⟨#[72, 111, 117, 110, 100, 115]⟩] 9 (0, 0)) := by
    rw [← hV, Al.heap_at _ _ _ (by omega), ← hW4, Al.heap_at _ _ _ (by omega), ← hW3, Al.heap_at _ _ _ (by omega), ← hW2, Al.heap_at _ _ _ (by omega), ← hW1]
    exact heap_alloc_new w _
  have k1 : V.heap[w.heap.size + 1]? = some (.cells #[.int .i64 7, .int .i64 3, .string ⟨#[68, 111, 103, 115]⟩, .slice (some ⟨w.heap.size, 0, none⟩) 1 1, .slice none 0 0] 56 (0, 0)) := by
    rw [← hV, Al.heap_at _ _ _ (by omega), ← hW4, Al.heap_at _ _ _ (by omega), ← hW3, Al.heap_at _ _ _ (by omega), ← hW2, ← z1]
    exact heap_alloc_new W1 _
  have k2 : V.heap[w.heap.size + 1 + 1]? = some (.cells ((Al.fh 0).subs.flatMap Rc.encS).toArray 48 (0, 0)) := by
    rw [← hV, Al.heap_at _ _ _ (by omega), ← hW4, Al.heap_at _ _ _ (by omega), ← hW3, ← z2]
    exact heap_alloc_new W2 _
  have k3 : V.heap[w.heap.size + 1 + 1 + 1]? = some (.cells (([(Al.fh 0, some ⟨w.heap.size + 1 + 1, 0, none⟩, 1)] : List Rc.FT).flatMap Rc.encF).toArray 24 (0, 0)) := by
    rw [← hV, Al.heap_at _ _ _ (by omega), ← hW4, ← z3]
    exact heap_alloc_new W3 _
  have k4 : V.heap[w.heap.size + 1 + 1 + 1 + 1]? = some (.cells #[.int .i64 0, .int .i64 3, .int .i64 1, .string ⟨#[101, 110, 103]⟩, .slice (some ⟨w.heap.size + 1 + 1 + 1, 0, none⟩) 1 1] 38 (0, 0)) := by
    rw [← hV, ← z4]
    exact heap_alloc_new W4 _
  refine ⟨V, by rw [← hV, ← hW4, ← hW3, ← hW2, ← hW1], ?_, ⟨k1, k0⟩, Rc.FldA.of_fa (T := [(Al.fh 0, some ⟨w.heap.size + 1 + 1, 0, none⟩, 1)]) (Br.FA.lit Rc.encF_len k3 (by simp)) (fun t ht => ?_), k4⟩
  · rw [← hV, ← hW4, ← hW3, ← hW2, ← hW1]
    exact ((((Tx.newb _ _).alloc (by simp) _).alloc (by simp; omega) _).alloc (by simp; omega) _).alloc (by simp; omega) _
  · simp at ht
    subst ht
    exact Al.sub_lit k2 (by decide)

set_option maxHeartbeats 6400000 in
theorem alive_c (w : World) (hG : G w) (hS : Ct.StdW w) :
    Calls Tryz.prog 9 #[] w fun e w' => e = .returned (.bool true) ∧ Below w.heap.size w w' := by
  obtain ⟨W, hW, hB, k1, k3, hP, hQ⟩ := Al.lay1 w
  have HW := Lib.hid hW; clear hW
  have hGW := hG.below hB
  have hSW : Ct.StdW W := hS.below hB
  have HK1 : Hid (Ct.kindOf (⟨#[49, 48, 48]⟩ : ByteArray).data.toList = 1) := Lib.hid Al.kind_100
  have HK2 : Hid (Ct.kindOf (⟨#[54, 53, 48]⟩ : ByteArray).data.toList = 3) := Lib.hid Al.kind_650
  have HK3 : Hid (Ct.kindOf (⟨#[50, 52, 53]⟩ : ByteArray).data.toList = 0) := Lib.hid Al.kind_245
  have HH1 := Lib.hid Al.head_fp
  have HH2 := Lib.hid Al.head_fs
  have HP1 := Lib.hid Al.put_fp
  have HP2 := Lib.hid Al.put_fs
  have HL1 : Hid ((⟨(Rc.line Al.fp2).toArray⟩ : ByteArray) = ⟨[49, 48, 48, 32, 49, 35, 32, 36, 97, 76, 101, 101, 44, 32, 66, 111, 36, 100, 49, 57, 54, 48, 45, 36, 52, 97, 117, 116].toArray⟩) := Lib.hid (by rw [Al.line_fp])
  have HL2 : Hid ((⟨(Rc.line Al.fs2).toArray⟩ : ByteArray) = ⟨[54, 53, 48, 32, 35, 48, 32, 36, 97, 67, 97, 116, 115, 36, 120, 67, 97, 114, 101, 36, 120, 71, 101, 114, 109, 97, 110, 121].toArray⟩) := Lib.hid (by rw [Al.line_fs])
  have t1 : True := trivial
  have t2 : True := trivial
  have t3 : True := trivial
  have q1 : True := trivial
  have p1 : True := trivial
  have r1 : True := trivial
  go_enter Tryz.func9, Tryz.ntmps9
  go_upto_region 9 with (first
    | (go_at_call 25; have _t := t1; clear t1 _t; rw [HW.out]; refine (control_Kind_c ⟨#[49, 48, 48]⟩ W hSW).mono ?_; rintro e w1 ⟨rfl, hb1⟩; rw [HK1.out])
    | (go_at_call 25; have _t := t2; clear t2 _t; refine (control_Kind_c ⟨#[54, 53, 48]⟩ _ (hSW.below hb1)).mono ?_; rintro e w2 ⟨rfl, hb2⟩; rw [HK2.out]; have hb12 := Tx.step hb1 hb2)
    | (go_at_call 25; have _t := t3; clear t3 _t; refine (control_Kind_c ⟨#[50, 52, 53]⟩ _ (hSW.below hb12)).mono ?_; rintro e w3 ⟨rfl, hb3⟩; rw [HK3.out]; have hb13 := Tx.step hb12 hb3; obtain ⟨xc3, xf3, xl3⟩ := Tx.blk (Tx.blk_later k1 hb13))
    | (go_at_call 26; have _t := q1; clear q1 _t; refine (control_Heading_c Al.fp (some ⟨w.heap.size, 0, none⟩) 3 _ (hSW.below hb13) (hP.below hb13) Al.fp_good).mono ?_; rintro e w4 ⟨rfl, hb4⟩; rw [HH1.out]; have hb14 := Tx.step hb13 hb4; obtain ⟨yc4, yf4, yl4⟩ := Tx.blk (Tx.blk_later k3 hb14))
    | (go_at_call 26; refine (control_Heading_c Al.fs (some ⟨w.heap.size + 1 + 1, 0, none⟩) 2 _ (hSW.below hb14) (hQ.below hb14) Al.fs_good).mono ?_; rintro e w5 ⟨rfl, hb5⟩; rw [HH2.out]; have hb15 := Tx.step hb14 hb5; obtain ⟨xc5, xf5, xl5⟩ := Tx.blk (Tx.blk_later k1 hb15))
    | (go_at_call 11; have _t := p1; clear p1 _t; refine (control_Put_c Al.fp (some ⟨w.heap.size, 0, none⟩) 3 ⟨#[76, 101, 101, 44, 32, 66, 111, 44, 32, 49, 57, 54, 48, 45]⟩ _ (hGW.below hb15) (hSW.below hb15) (hP.below hb15) (by decide) (by decide) (by decide)).mono ?_; rw [show Ct.putF Al.fp (⟨#[76, 101, 101, 44, 32, 66, 111, 44, 32, 49, 57, 54, 48, 45]⟩ : ByteArray).data.toList = Al.fp2 from HP1.out]; rintro e w6 ⟨va6, vc6, rfl, hS6, hb6, -⟩; have hb16 := Tx.step hb15 hb6)
    | (go_at_call 27; have _t := r1; clear r1 _t; refine (field_Print_ok Al.fp2 va6 vc6 _ (hGW.below hb16) hS6 Al.fp2_ok (by decide) rfl Al.fp2_ind.1 Al.fp2_ind.2.1 Al.fp2_ind.2.2 Al.fp2_val).mono ?_; rintro e w7 ⟨rfl, hb7⟩; rw [HL1.out]; have hb17 := Tx.step hb16 hb7; obtain ⟨yc7, yf7, yl7⟩ := Tx.blk (Tx.blk_later k3 hb17))
    | (go_at_call 11; refine (control_Put_c Al.fs (some ⟨w.heap.size + 1 + 1, 0, none⟩) 2 ⟨#[67, 97, 116, 115, 45, 45, 67, 97, 114, 101, 45, 45, 71, 101, 114, 109, 97, 110, 121]⟩ _ (hGW.below hb17) (hSW.below hb17) (hQ.below hb17) (by decide) (by decide) (by decide)).mono ?_; rw [show Ct.putF Al.fs (⟨#[67, 97, 116, 115, 45, 45, 67, 97, 114, 101, 45, 45, 71, 101, 114, 109, 97, 110, 121]⟩ : ByteArray).data.toList = Al.fs2 from HP2.out]; rintro e w8 ⟨va8, vc8, rfl, hS8, hb8, -⟩; have hb18 := Tx.step hb17 hb8)
    | (go_at_call 27; refine (field_Print_ok Al.fs2 va8 vc8 _ (hGW.below hb18) hS8 Al.fs2_ok (by decide) rfl Al.fs2_ind.1 Al.fs2_ind.2.1 Al.fs2_ind.2.2 Al.fs2_val).mono ?_; rintro e w9 ⟨rfl, hb9⟩; rw [HL2.out]; have hb19 := Tx.step hb18 hb9))
  obtain ⟨V, hV, hBV, hAu, hFV, kV⟩ := Al.lay2 w9
  have HV := Lib.hid hV; clear hV
  have hBw := (Tx.step hB hb19).trans (hBV.mono (Tx.step hB hb19).size)
  have hGV := hG.below hBw
  have hSV : Ct.StdW V := hS.below hBw
  have HHF1 : Hid ((⟨(Ct.headingF (Al.fh 7)).toArray⟩ : ByteArray) = ⟨#[104, 111, 117, 110, 100, 115]⟩) := Lib.hid (by rw [Al.head_fh])
  have HHF2 := Lib.hid Al.head_fd
  have HLO := Lib.hid Al.loose_fh
  clear k1 k3 hP hQ
  go_upto_region 13 with (first
    | (go_at_call 28; rw [HV.out]; refine (Link_al (w9.heap.size + 1) w9.heap.size 0 3 1 ⟨#[101, 110, 103]⟩ (some ⟨w9.heap.size + 1 + 1 + 1, 0, none⟩) 1 V hAu hGV hSV hFV).mono ?_; rintro e w10 ⟨va, vc, rfl, hF10, hb10⟩; have hn10 := hb10.alloc hb10.size (.cells #[.int .i64 0, .int .i64 3, .int .i64 1, .string ⟨#[101, 110, 103]⟩, .slice va 1 vc] 38))
    | (go_at_call 29; refine (Follow_al (w9.heap.size + 1) w9.heap.size 0 3 1 ⟨#[101, 110, 103]⟩ va vc _ (hAu.below hn10) (hGV.below hn10) (hSV.below hn10) (hF10.below (Tx.newb _ _))).mono ?_; rintro e w11 ⟨vb, vd, rfl, hF11, hb11⟩; have k9 := Tx.fresh hb11; have hn11 := Tx.step hn10 hb11))
  have hz11 : Below w10.heap.size w10 w11 := (Tx.newb w10 _).trans (hb11.mono (Tx.newb w10 _).size)
  obtain ⟨b9, o9, sa9, sc9, rfl, hl9, f0, f1, f2, f3, hs9⟩ := hF10.get (k := 0) (f := Al.fh 7) rfl
  obtain ⟨b1, o1, sa1, sc1, rfl, hl1, g0, g1, g2, g3, hs1⟩ := hF11.get (k := 0) (f := Al.fd) rfl
  simp only [Nat.zero_mul, Nat.add_zero] at f0 f1 f2 f3 g0 g1 g2 g3
  replace f0 := cell_later hz11 f0
  replace f1 := cell_later hz11 f1
  replace f2 := cell_later hz11 f2
  replace f3 : w11.cell? ⟨b9, o9 + 3, none⟩ = some (.int .i64 7) := cell_later hz11 f3
  obtain ⟨nc, nf, nl⟩ := Tx.blk k9
  have hnz := hn11.alloc hn11.size (.cells #[.int .i64 0, .int .i64 3, .int .i64 1, .string ⟨#[101, 110, 103]⟩, .slice (some ⟨b1, o1, none⟩) 1 vd] 38)
  have hz := Tx.newb w11 (.cells #[.int .i64 0, .int .i64 3, .int .i64 1, .string ⟨#[101, 110, 103]⟩, .slice (some ⟨b1, o1, none⟩) 1 vd] 38)
  have hs9z := (hs9.below hz11).below hz
  have hl9' : b9 < w11.heap.size := Nat.lt_of_lt_of_le hl9 hz11.size
  have u1 : True := trivial
  have hlen1 : (Ct.looseAt 0 [Al.fh 0]).length = 1 := by rw [HLO.out]; rfl
  have HL1 := Lib.hid hlen1
  clear hlen1
  go_wp2_with (first
    | (go_at_call 26; have _t := u1; clear u1 _t; refine (control_Heading_c (Al.fh 7) sa9 sc9 _ (hSV.below hnz) hs9z (Al.fh_good 7)).mono ?_; rintro e w12 ⟨rfl, hb12⟩; rw [HHF1.out]; obtain ⟨mc, mf, ml⟩ := Tx.blk (Tx.fresh hb12); have hz12 := Tx.step hz hb12; have g0' := cell_later hz12 g0; have g1' := cell_later hz12 g1; have g2' := cell_later hz12 g2; have g3' := cell_later hz12 g3; have hn12 := Tx.step hnz hb12)
    | (go_at_call 26; refine (control_Heading_c Al.fd sa1 sc1 _ (hSV.below hn12) (hs1.below hz12) Al.fd_good).mono ?_; rintro e w13 ⟨rfl, hb13⟩; rw [HHF2.out]; have hn13 := Tx.step hn12 hb13; obtain ⟨vc13, vf13, vl13⟩ := Tx.blk (Tx.blk_later kV hn13))
    | (go_at_call 19; refine (control_Loose_c [Al.fh 0] (some ⟨w9.heap.size + 1 + 1 + 1, 0, none⟩) 1 0 3 1 ⟨#[101, 110, 103]⟩ _ (hFV.below hn13) (hSV.below hn13) (by simp)).mono ?_; rw [HL1.out]; rintro e w14 ⟨v, rfl, hown14, hb14⟩; obtain ⟨ga, gc, rfl⟩ : ∃ ga gc, v = .slice ga 1 gc := (by
        rcases hown14.2 with ⟨_, h7⟩ | ⟨g7, c7, _, h7, _⟩
        · omega
        · exact ⟨_, _, h7⟩)))
  go_ret
  exact ⟨rfl, Tx.step hBw (Tx.step hn13 hb14)⟩
end Go.Proofs.YtlinaeklhkfbcaaGreatDoor
