/- The program's check of a right field: what the calls return. -/
import Derived.Test.YtlinaeklhkfbcaaGreatDoorHgM
import Derived.Test.YtlinaeklhkfbcaaGreatDoorRgA
import Derived.Test.YtlinaeklhkfbcaaGreatDoorFlA
import Derived.Test.YtlinaeklhkfbcaaGreatDoorTxV
import Derived.WalkLawsBesides
import Derived.Test.YtlinaeklhkfbcaaGreatDoorBl
import Derived.Shelf.Strings.MapGrows
namespace Go.Proofs.YtlinaeklhkfbcaaGreatDoor
open Go.RowKit
set_option maxRecDepth 100000

theorem Rc.digs_all (l : List UInt8) : decide (Lib.trimS l [48, 49, 50, 51, 52, 53, 54, 55, 56, 57] = []) = l.all Rc.digB := by
  rw [Bool.eq_iff_iff, decide_eq_true_iff, Hd.trim_nil]
  have : (fun c => List.contains [48, 49, 50, 51, 52, 53, 54, 55, 56, 57] c) = Rc.digB := funext Hd.digs_has
  rw [this]
set_option maxHeartbeats 400000 in
theorem field_digits_c (s : ByteArray) (w : World) (hs : s.size ≤ 1000000000) :
    Calls Tryz.prog 81 #[.string s] w fun e w' => e = .returned (.bool (s.data.toList.all Rc.digB)) ∧ Below w.heap.size w w' := by
  obtain ⟨r, hr⟩ : ∃ r, (⟨(Lib.trimS s.data.toList [48, 49, 50, 51, 52, 53, 54, 55, 56, 57]).toArray⟩ : ByteArray) = r := ⟨_, rfl⟩
  have he : r.toList.isEmpty = s.data.toList.all Rc.digB := by
    rw [← Rc.digs_all, ← hr, Lib.toList_data]
    show (Lib.trimS s.data.toList [48, 49, 50, 51, 52, 53, 54, 55, 56, 57]).isEmpty = _
    cases Lib.trimS s.data.toList [48, 49, 50, 51, 52, 53, 54, 55, 56, 57] <;> simp
  obtain ⟨bb, hbb⟩ : ∃ bb, s.data.toList.all Rc.digB = bb := ⟨_, rfl⟩
  rw [hbb] at he ⊢
  have HR := Lib.hid hr
  clear hr hbb
  go_enter Tryz.func81, Tryz.ntmps81
  go_wp2_with (go_at_call 113; refine (Any.strings_Trim_laid Tryz.lays160 (by kernel_rfl) s ⟨#[48, 49, 50, 51, 52, 53, 54, 55, 56, 57]⟩ _ (by omega) (by decide) digits_ascii).mono ?_; rintro e w1 ⟨rfl, hb1⟩; rw [show (⟨(Lib.trimS s.data.toList (⟨#[48, 49, 50, 51, 52, 53, 54, 55, 56, 57]⟩ : ByteArray).data.toList).toArray⟩ : ByteArray) = r from HR.out])
  go_ret
  exact ⟨rfl, hb1⟩

set_option maxHeartbeats 800000 in
theorem field_coded_c (x : UInt8) (w : World) :
    Calls Tryz.prog 114 #[.int .u8 x.toNat] w fun e w' => e = .returned (.bool (Rc.codeB x)) ∧ Below w.heap.size w w' := by
  obtain ⟨b, hb⟩ : ∃ b, Rc.codeB x = b := ⟨_, rfl⟩
  rw [hb]
  unfold Rc.codeB Rc.digB Rc.lowB at hb
  have hxl := x.toNat_lt
  obtain ⟨n, hn⟩ : ∃ n : Nat, x.toNat = n := ⟨_, rfl⟩
  rw [hn] at hb hxl ⊢
  clear hn
  rcases (show n < 48 ∨ (48 ≤ n ∧ n ≤ 57) ∨ (57 < n ∧ n < 97) ∨ (97 ≤ n ∧ n ≤ 122) ∨ 122 < n by omega) with g | ⟨g1, g2⟩ | ⟨g1, g2⟩ | ⟨g1, g2⟩ | g
  · have : b = false := by rw [← hb]; simp; omega
    have g1 : n < 97 := by omega
    subst this; clear hb
    go_enter Tryz.func114, Tryz.ntmps114
    go_wp2
    go_ret
    exact ⟨Tx.retb (by first | rfl | (simp; done) | (simp; omega)), Below.refl _ _⟩
  · have : b = true := by rw [← hb]; simp; omega
    have g3 : n < 97 := by omega
    subst this; clear hb
    go_enter Tryz.func114, Tryz.ntmps114
    go_wp2
    go_ret
    exact ⟨Tx.retb (by first | rfl | (simp; done) | (simp; omega)), Below.refl _ _⟩
  · have : b = false := by rw [← hb]; simp; omega
    have g3 : 48 ≤ n := by omega
    subst this; clear hb
    go_enter Tryz.func114, Tryz.ntmps114
    go_wp2
    go_ret
    exact ⟨Tx.retb (by first | rfl | (simp; done) | (simp; omega)), Below.refl _ _⟩
  · have : b = true := by rw [← hb]; simp; omega
    subst this; clear hb
    go_enter Tryz.func114, Tryz.ntmps114
    go_wp2
    go_ret
    exact ⟨Tx.retb (by first | rfl | (simp; done) | (simp; omega)), Below.refl _ _⟩
  · have : b = false := by rw [← hb]; simp; omega
    have g3 : 97 ≤ n := by omega
    have g4 : 48 ≤ n := by omega
    have g5 : 57 < n := by omega
    subst this; clear hb
    go_enter Tryz.func114, Tryz.ntmps114
    go_wp2
    go_ret
    exact ⟨Tx.retb (by first | rfl | (simp; done) | (simp; omega)), Below.refl _ _⟩

set_option maxHeartbeats 800000 in
/-- The check of a right subfield. -/
theorem checkSub_ok (x : UInt8 × ByteArray) (w : World) (hG : G w) (h1 : Rc.codeB x.1 = true) (h2 : x.2.data.toList ≠ []) (h3 : Tx.valid x.2.data.toList = true) (h4 : x.2.size ≤ 200) :
    Calls Tryz.prog 82 #[.agg #[.int .u8 x.1.toNat, .string x.2]] w fun e w' => e = .returned (.int .i64 0) ∧ Below w.heap.size w w' := by
  obtain ⟨W, hW⟩ : ∃ W, w.alloc (.cells #[.int .u8 x.1.toNat, .string x.2] 48) = W := ⟨_, rfl⟩
  have hB : Below w.heap.size w W := by rw [← hW]; exact Tx.newb _ _
  have kb : W.heap[w.heap.size]? = some (.cells #[.int .u8 x.1.toNat, .string x.2] 48 (0, 0)) := by rw [← hW]; exact heap_alloc_new _ _
  have HW := Lib.hid hW; clear hW
  have e2 : x.2.toList.isEmpty = false := by rw [Lib.toList_data]; simpa using h2
  have H1 := Lib.hid h1; clear h1
  have H3 := Lib.hid h3; clear h3 h2
  go_enter Tryz.func82, Tryz.ntmps82
  go_wp2_with (first
    | (go_at_call 114; rw [HW.out]; refine (field_coded_c x.1 W).mono ?_; rintro e w1 ⟨rfl, hb1⟩; rw [H1.out]; have kb1 := Tx.blk_later kb hb1; obtain ⟨bc, bf, bl⟩ := Tx.blk kb1; have hB1 := Tx.step hB hb1)
    | (go_at_call 62; refine (text_Valid_c x.2 _ (by omega) (hG.below hB1)).mono ?_; rintro e w2 ⟨rfl, hb2⟩; rw [H3.out]; obtain ⟨bc2, bf2, bl2⟩ := Tx.blk (Tx.blk_later kb1 hb2)))
  go_ret
  exact ⟨rfl, Tx.step hB1 hb2⟩
end Go.Proofs.YtlinaeklhkfbcaaGreatDoor

/- The program's Right of a right field, and Print of one without a link: what the calls return. -/
namespace Go.Proofs.YtlinaeklhkfbcaaGreatDoor
open Go.RowKit
set_option maxRecDepth 100000

theorem Rc.threeB {s : ByteArray} (h : s.size = 3) : ∃ x y z : UInt8, s = ⟨#[x, y, z]⟩ := by
  obtain ⟨⟨l⟩⟩ := s
  match l, h with
  | [x, y, z], _ => exact ⟨x, y, z, rfl⟩
theorem Rc.repl_len (s old new : ByteArray) (h1 : 1 ≤ old.size) (h2 : new.size ≤ 2) (hs : s.size ≤ 1000000) : s.size + Lib.countB s old * new.size ≤ 140737488355328 := by
  have hc := Lib.countB_le old h1 s.size s (Nat.le_refl _)
  have : Lib.countB s old * new.size ≤ 1000000 * 2 := Nat.mul_le_mul (by omega) h2
  omega
set_option maxHeartbeats 1600000 in
theorem field_Right_ok (f : Rc.Fl) (a : Option Addr) (c : Nat) (w : World) (hG : G w) (h : Rc.SubA w a c f.subs) (hk : Rc.Okf f) (hne : f.subs.length ≠ 0) (hi : (Lib.replaceAll f.ind.data.toList [32] [48]).all Rc.digB = true) (hil : (Lib.replaceAll f.ind.data.toList [32] [48]).length ≤ 1000) :
    Calls Tryz.prog 53 #[.agg #[.string f.tag, .string f.ind, .slice a f.subs.length c, .int .i64 f.auth]] w fun e w' => e = .returned (.int .i64 0) ∧ Below w.heap.size w w' := by
  obtain ⟨W, hW⟩ : ∃ W, w.alloc (.cells #[.string f.tag, .string f.ind, .slice a f.subs.length c, .int .i64 f.auth] 24) = W := ⟨_, rfl⟩
  have hB : Below w.heap.size w W := by rw [← hW]; exact Tx.newb _ _
  have kb : W.heap[w.heap.size]? = some (.cells #[.string f.tag, .string f.ind, .slice a f.subs.length c, .int .i64 f.auth] 24 (0, 0)) := by rw [← hW]; exact heap_alloc_new _ _
  have HW := Lib.hid hW; clear hW
  have hS := h.below hB
  have hcap := h.cap
  have hmax := h.max
  have hml : maxLen = 9223372036854775807 := rfl
  obtain ⟨m, hm⟩ := (hG.below hB).m
  have htag := hk.tag
  rw [← Lib.size_eq] at htag
  have hind := hk.ind
  rw [← Lib.size_eq] at hind
  obtain ⟨x, y, z, ht⟩ := Rc.threeB htag
  have htok := hk.tagok
  rw [ht] at htok
  have htk : Rc.digB x = true ∧ Rc.digB y = true ∧ Rc.digB z = true ∧ ¬ ([x, y, z] < ([48, 49, 48] : List UInt8)) := by
    have hq : Rc.tagOk [x, y, z] = (Rc.digB x && Rc.digB y && Rc.digB z && !decide ([x, y, z] < ([48, 49, 48] : List UInt8))) := rfl
    rw [show (⟨#[x, y, z]⟩ : ByteArray).data.toList = [x, y, z] from rfl, hq] at htok
    simp only [Bool.and_eq_true, Bool.not_eq_true', decide_eq_false_iff_not] at htok
    exact ⟨htok.1.1.1, htok.1.1.2, htok.1.2, htok.2⟩
  have HD : Hid (f.tag.data.toList.all Rc.digB = true) := Lib.hid (by rw [ht]; simp [htk.1, htk.2.1, htk.2.2.1])
  have hl1 : Op.bytesLess f.tag.toList [48, 49, 48] = false := by rw [bytesLess_eq, Lib.toList_data, ht]; exact decide_eq_false htk.2.2.2
  have hl2 : Op.bytesLess f.tag.data.toList [48, 49, 48] = false := by rw [← Lib.toList_data]; exact hl1
  obtain ⟨r, hr⟩ : ∃ r, (⟨(Lib.replaceAll f.ind.data.toList [32] [48]).toArray⟩ : ByteArray) = r := ⟨_, rfl⟩
  have HRD : Hid (r.data.toList.all Rc.digB = true) := Lib.hid (by rw [← hr]; exact hi)
  have hrl : r.size ≤ 1000 := by rw [← hr, Tx.size_mk]; exact hil
  have HR := Lib.hid hr; clear hr
  have hts : ((f.tag.size : Int) != 3) = false := by simp [htag]
  have his : ((f.ind.size : Int) != 2) = false := by simp [hind]
  have hls := hk.subs
  have hau := hk.auth
  have HK := Lib.hid hk
  have hl0 : ((f.subs.length : Int) == 0) = false := beq_eq_false_iff_ne.2 (by omega)
  have HT := Lib.hid htag
  have hts2 : f.tag.size ≤ 3 := by omega
  have his2 : f.ind.size ≤ 2 := by omega
  have HN := Lib.hid hne
  have HSL : Hid (f.subs.length ≤ 16) := Lib.hid hls
  clear ht htok htk htag hind hi hil hk hne
  go_enter Tryz.func53, Tryz.ntmps53
  go_wp2_with (first
    | (go_at_call 81; (try rw [HW.out]); (with_reducible refine (field_digits_c f.tag _ (by omega)).mono ?_); rintro e w1 ⟨rfl, hb1⟩; rw [HD.out]; have hB1 := Tx.step hB hb1; obtain ⟨bc1, bf1, bl1⟩ := Tx.blk (Tx.blk_later kb hb1); have hm1 := cell_later hb1 hm)
    | (go_at_call 56; refine (Tryz.strings_ReplaceAll f.ind ⟨#[32]⟩ ⟨#[48]⟩ m _ (by omega) hm1 (by decide) (Rc.repl_len _ _ _ (by decide) (by decide) (by omega))).mono ?_; rintro e w2 ⟨rfl, hb2⟩; rw [show (⟨(Lib.replaceAll f.ind.data.toList (⟨#[32]⟩ : ByteArray).data.toList (⟨#[48]⟩ : ByteArray).data.toList).toArray⟩ : ByteArray) = r from HR.out]; have hb12 := Tx.step hb1 hb2; have hB2 := Tx.step hB hb12; obtain ⟨bc2, bf2, bl2⟩ := Tx.blk (Tx.blk_later kb hb12))
    | (go_at_call 81; (with_reducible refine (field_digits_c r _ (by omega)).mono ?_); rintro e w3 ⟨rfl, hb3⟩; rw [HRD.out]; have hb13 := Tx.step hb12 hb3; have hB3 := Tx.step hB hb13; obtain ⟨bc3, bf3, bl3⟩ := Tx.blk (Tx.blk_later kb hb13)))
  have hS3 := hS.below hb13
  have hb13s := hb13.size
  go_loopw [47] (fun i wr => ∃ k : Nat, k ≤ f.subs.length ∧ i = .int .i64 k ∧ Below w3.heap.size w3 wr) (fun i _ => f.subs.length - (intOf i).toNat)
  case atStart => exact ⟨0, Nat.zero_le _, rfl, Below.refl _ _⟩
  case round =>
    obtain ⟨k, hk, rfl, hb⟩ := hrel
    have hbs := hb.size
    obtain ⟨bc4, bf4, bl4⟩ := Tx.blk (Tx.blk_later kb (Tx.step hb13 hb))
    by_cases hlt : k < f.subs.length
    · obtain ⟨x, hx⟩ : ∃ x, f.subs[k]? = some x := ⟨_, List.getElem?_eq_getElem hlt⟩
      obtain ⟨b, o, rfl, hbl, c0, c1⟩ := hS3.get hx
      replace c0 := cell_later hb c0
      replace c1 := cell_later hb c1
      have HV := Lib.hid (HK.out.vals x (List.mem_of_getElem? hx))
      have hGr := hG.below (Tx.step hB3 hb)
      clear hx
      go_wp2_with (go_at_call 82; refine (checkSub_ok x _ (hGr.below (Tx.newb _ _)) HV.out.1 HV.out.2.1 HV.out.2.2.1 HV.out.2.2.2).mono ?_; rintro e w5 ⟨rfl, hb5⟩)
      go_roundw
      case rel => exact ⟨k + 1, by omega, by go_num, Tx.step (hb.alloc hbs _) hb5⟩
      case measure => simp [intOf]; omega
    · obtain rfl : k = f.subs.length := by omega
      go_wp2
      go_ret
      exact ⟨rfl, Tx.step hB3 hb⟩

namespace Rc
/-- The line of a field without a link. -/
def subLine (x : UInt8 × ByteArray) : List UInt8 := 36 :: x.1 :: Lib.replaceAll x.2.data.toList [36] [36, 36]
def line (f : Fl) : List UInt8 := f.tag.data.toList ++ ([32] ++ Lib.replaceAll f.ind.data.toList [32] [35] ++ [32]) ++ f.subs.flatMap subLine
end Rc

theorem Write36 (B b : Nat) (l : List UInt8) (w : World) (h : BIs B b l w) (hlen : l.length + 1 ≤ 140737488355328) (hBw : B ≤ w.heap.size) :
    Calls Tryz.prog 57 #[.pointer (some ⟨b, 0, none⟩), .int .u8 36] w fun e w' => e = .returned .nilIface ∧ BIs B b (l ++ [36]) w' ∧ Below B w w' ∧ Lib.OthersKept 5 (some b) w w' :=
  WriteByte_c B b l 36 w h hlen hBw
theorem Rc.subLine_take {xs : List (UInt8 × ByteArray)} {k : Nat} {x : UInt8 × ByteArray} (h : xs[k]? = some x) : (xs.take (k + 1)).flatMap Rc.subLine = (xs.take k).flatMap Rc.subLine ++ ([36] ++ [x.1] ++ Lib.replaceAll x.2.data.toList [36] [36, 36]) := by
  rw [List.take_add_one, h, List.flatMap_append]
  simp [Rc.subLine]
set_option maxHeartbeats 3200000 in
theorem field_Print_ok (f : Rc.Fl) (a : Option Addr) (c : Nat) (w : World) (hG : G w) (h : Rc.SubA w a c f.subs) (hk : Rc.Okf f) (hne : f.subs.length ≠ 0) (ha : f.auth = 0) (hi : (Lib.replaceAll f.ind.data.toList [32] [48]).all Rc.digB = true) (hil : (Lib.replaceAll f.ind.data.toList [32] [48]).length ≤ 1000)
    (hrl : (Lib.replaceAll f.ind.data.toList [32] [35]).length ≤ 1000) (hvl : ∀ x ∈ f.subs, (Lib.replaceAll x.2.data.toList [36] [36, 36]).length ≤ 1000) :
    Calls Tryz.prog 27 #[.agg #[.string f.tag, .string f.ind, .slice a f.subs.length c, .int .i64 f.auth]] w fun e w' => e = .returned (.tuple #[.string ⟨(Rc.line f).toArray⟩, .int .i64 0]) ∧ Below w.heap.size w w' := by
  obtain ⟨W, hW⟩ : ∃ W, w.alloc (.cells #[.string f.tag, .string f.ind, .slice a f.subs.length c, .int .i64 f.auth] 24) = W := ⟨_, rfl⟩
  have hB : Below w.heap.size w W := by rw [← hW]; exact Tx.newb _ _
  have kb : W.heap[w.heap.size]? = some (.cells #[.string f.tag, .string f.ind, .slice a f.subs.length c, .int .i64 f.auth] 24 (0, 0)) := by rw [← hW]; exact heap_alloc_new _ _
  have HW := Lib.hid hW; clear hW
  have hS := h.below hB
  have hcap := h.cap
  have hmax := h.max
  have hml : maxLen = 9223372036854775807 := rfl
  obtain ⟨m, hm⟩ := (hG.below hB).m
  have htag := hk.tag
  rw [← Lib.size_eq] at htag
  have hind := hk.ind
  rw [← Lib.size_eq] at hind
  have hts : f.tag.size ≤ 3 := by omega
  have his : f.ind.size ≤ 2 := by omega
  have hsl := hk.subs
  obtain ⟨r, hr⟩ : ∃ r, (⟨(Lib.replaceAll f.ind.data.toList [32] [35]).toArray⟩ : ByteArray) = r := ⟨_, rfl⟩
  have hrs : r.size ≤ 1000 := by rw [← hr, Tx.size_mk]; exact hrl
  have HRD : Hid (Lib.replaceAll f.ind.data.toList [32] [35] = r.data.toList) := Lib.hid (by rw [← hr])
  have HR := Lib.hid hr; clear hr
  have hau : (f.auth != 0) = false := by simp [ha]
  have HA := Lib.hid ha
  have HK := Lib.hid hk
  have HN := Lib.hid hne
  have HI := Lib.hid hi
  have HIL := Lib.hid hil
  have HVL := Lib.hid hvl
  obtain ⟨a1, a2, -⟩ := Tx.adds_ok Tryz.prog [r, ⟨#[32]⟩] ⟨#[32]⟩ (by have h2 : (⟨#[32]⟩ : ByteArray).size = 1 := rfl; simp only [List.map_cons, List.map_nil, List.sum_cons, List.sum_nil]; omega)
  clear htag hind hk hne ha hi hil hrl hvl
  obtain ⟨z, hz⟩ : ∃ z, (⟨#[32]⟩ : ByteArray) ++ r ++ ⟨#[32]⟩ = z := ⟨_, rfl⟩
  have hzs : z.size = r.size + 2 := by
    rw [← hz, ByteArray.size_append, ByteArray.size_append, show (⟨#[32]⟩ : ByteArray).size = 1 from rfl]
    omega
  have hzl : z.size ≤ 1002 := by omega
  have HZD : Hid (z.data.toList = [32] ++ r.data.toList ++ [32]) := Lib.hid (by rw [← hz]; simp)
  have HLEN : Hid (f.tag.data.toList.length + z.size ≤ 140737488355328) := Lib.hid (by rw [← Lib.size_eq]; omega)
  have HZ := Lib.hid hz; clear hz hzs
  have t1 : True := trivial
  go_enter Tryz.func27, Tryz.ntmps27
  go_wp2_with (first
    | (go_at_call 53; rw [HW.out]; refine (field_Right_ok f a c _ (hG.below hB) hS HK.out HN.out HI.out HIL.out).mono ?_; rintro e w1 ⟨rfl, hb1⟩; obtain ⟨bc1, bf1, bl1⟩ := Tx.blk (Tx.blk_later kb hb1); have hb1s := hb1.size)
    | (go_at_call 54; have _t := t1; clear t1 _t; refine (WriteString_c w1.heap.size w1.heap.size [] f.tag _ (Lib.IsBuilderF.of (Lib.fresh_isBuilder 93 5 w1)) (by simp; omega) (by simp)).mono ?_; rintro e w2 ⟨rfl, hI2, hb2, k2⟩; rw [List.nil_append] at hI2; have hb12 : Below w1.heap.size w1 w2 := (Tx.newb w1 _).trans hb2; have hb22 := Tx.step hb1 hb12; obtain ⟨bc2, bf2, bl2⟩ := Tx.blk (Tx.blk_later kb hb22); have hm2 := cell_later hb22 hm)
    | (go_at_call 56; refine (Tryz.strings_ReplaceAll f.ind ⟨#[32]⟩ ⟨#[35]⟩ m _ (by omega) hm2 (by decide) (Rc.repl_len _ _ _ (by decide) (by decide) (by omega))).mono ?_; rintro e w3 ⟨rfl, hb3⟩; rw [show (⟨(Lib.replaceAll f.ind.data.toList (⟨#[32]⟩ : ByteArray).data.toList (⟨#[35]⟩ : ByteArray).data.toList).toArray⟩ : ByteArray) = r from HR.out]; have hI3 := Lib.IsBuilderF.below hI2 hb3; have hb13 := Tx.step hb12 hb3; have hb33 := Tx.step hb1 hb13)
    | (go_at_call 54; rw [HZ.out]; refine (WriteString_c w1.heap.size w1.heap.size f.tag.data.toList z _ hI3 HLEN.out hb13.size).mono ?_; rintro e w4 ⟨rfl, hI4, hb4, k4⟩; have hb14 := hb13.trans hb4; have hb44 := Tx.step hb1 hb14; obtain ⟨bc4, bf4, bl4⟩ := Tx.blk (Tx.blk_later kb hb44)))
  have hI4' : BIs w1.heap.size w1.heap.size (f.tag.data.toList ++ ([32] ++ Lib.replaceAll f.ind.data.toList [32] [35] ++ [32])) w4 := by
    rw [HRD.out]
    rw [← HZD.out]
    exact hI4
  obtain ⟨P0, hP0⟩ : ∃ P0, f.tag.data.toList ++ ([32] ++ Lib.replaceAll f.ind.data.toList [32] [35] ++ [32]) = P0 := ⟨_, rfl⟩
  rw [hP0] at hI4'
  have hPl : P0.length ≤ 1005 := by
    rw [← hP0, HRD.out]
    simp only [List.length_append, ← Lib.size_eq, List.length_cons, List.length_nil]
    omega
  have HP0 := Lib.hid hP0
  have hS1 := hS.below hb1
  have hlt4 : w1.heap.size < w4.heap.size := by
    have e1 := hb2.size
    have e2 := hb3.size
    have e3 := hb4.size
    simp at e1
    omega
  clear hP0 hI4 hI3 hI2 k2 k4
  go_loopw [33] (fun i wr => ∃ (k : Nat) (out : List UInt8), k ≤ f.subs.length ∧ i = .int .i64 k ∧ Hid (out = P0 ++ (f.subs.take k).flatMap Rc.subLine) ∧ out.length ≤ 1005 + k * 1002 ∧ w1.heap.size < wr.heap.size ∧ BIs w1.heap.size w1.heap.size out wr ∧ Below w1.heap.size w1 wr) (fun i _ => f.subs.length - (intOf i).toNat)
  case atStart => exact ⟨0, P0, Nat.zero_le _, rfl, Lib.hid (by simp), by omega, hlt4, hI4', hb14⟩
  case round =>
    obtain ⟨k, out, hk, rfl, hO, hol, hlb, hI, hb⟩ := hrel
    have hbs := hb.size
    by_cases hlt : k < f.subs.length
    · obtain ⟨x, hx⟩ : ∃ x, f.subs[k]? = some x := ⟨_, List.getElem?_eq_getElem hlt⟩
      obtain ⟨b, o, rfl, hbl, c0, c1⟩ := hS1.get hx
      replace c0 := cell_later hb c0
      replace c1 := cell_later hb c1
      have hst := Rc.subLine_take hx
      have hvl := HVL.out x (List.mem_of_getElem? hx)
      have hxs := (HK.out.vals x (List.mem_of_getElem? hx)).2.2.2
      obtain ⟨q, hq⟩ : ∃ q, (⟨(Lib.replaceAll x.2.data.toList [36] [36, 36]).toArray⟩ : ByteArray) = q := ⟨_, rfl⟩
      have hqs : q.size ≤ 1000 := by rw [← hq, Tx.size_mk]; exact hvl
      have hqd : Lib.replaceAll x.2.data.toList [36] [36, 36] = q.data.toList := by rw [← hq]
      rw [hqd] at hst
      have HQ := Lib.hid hq; clear hq hqd hvl
      have HST := Lib.hid hst; clear hst hx
      have hmr := cell_later (Tx.step hb1 hb) hm
      have hIa := hI.alloc (.cells #[.int .u8 x.1.toNat, .string x.2] 48)
      have hba := hb.alloc hbs (.cells #[.int .u8 x.1.toNat, .string x.2] 48)
      have kn : (wr.alloc (.cells #[.int .u8 x.1.toNat, .string x.2] 48)).heap[wr.heap.size]? = some (.cells #[.int .u8 x.1.toNat, .string x.2] 48 (0, 0)) := heap_alloc_new _ _
      have hnb : some wr.heap.size ≠ some w1.heap.size := fun e => by
        injection e with e
        omega
      have hno : ∀ cs fz, Obj.cells #[.int .u8 x.1.toNat, .string x.2] 48 (0, 0) ≠ .cells cs 5 fz := fun cs fz e => by simp at e
      have HNO := Lib.hid hno; clear hno
      have HNB := Lib.hid hnb; clear hnb
      have hk17 : k ≤ 16 := by omega
      have q1 : True := trivial
      go_wp2_with (first
        | (go_at_call 57; have _t := q1; clear q1 _t; refine (Write36 w1.heap.size w1.heap.size out _ hIa (by omega) hba.size).mono ?_; rintro e w5 ⟨rfl, hI5, hb5, k5⟩; have hb15 := hba.trans hb5; have kn5 := k5 _ _ kn HNB.out HNO.out; obtain ⟨nc5, nf5, nl5⟩ := Tx.blk kn5)
        | (go_at_call 57; refine (WriteByte_c w1.heap.size w1.heap.size (out ++ [36]) x.1 _ hI5 (by simp; omega) hb15.size).mono ?_; rintro e w6 ⟨rfl, hI6, hb6, k6⟩; have hb16 := hb15.trans hb6; have kn6 := k6 _ _ kn5 HNB.out HNO.out; obtain ⟨nc6, nf6, nl6⟩ := Tx.blk kn6; have hm6 := cell_later (Tx.step hb1 hb16) hm)
        | (go_at_call 56; refine (Tryz.strings_ReplaceAll x.2 ⟨#[36]⟩ ⟨#[36, 36]⟩ m _ (by omega) hm6 (by decide) (Rc.repl_len _ _ _ (by decide) (by decide) (by omega))).mono ?_; rintro e w7 ⟨rfl, hb7⟩; rw [show (⟨(Lib.replaceAll x.2.data.toList (⟨#[36]⟩ : ByteArray).data.toList (⟨#[36, 36]⟩ : ByteArray).data.toList).toArray⟩ : ByteArray) = q from HQ.out]; have hI7 := Lib.IsBuilderF.below hI6 hb7; have hb17 := Tx.step hb16 hb7)
        | (go_at_call 54; refine (WriteString_c w1.heap.size w1.heap.size (out ++ [36] ++ [x.1]) q _ hI7 (by simp; omega) hb17.size).mono ?_; rintro e w8 ⟨rfl, hI8, hb8, k8⟩; have hb18 := hb17.trans hb8))
      have hlt8 : w1.heap.size < w8.heap.size := by
        have e5 := hb5.size
        have e6 := hb6.size
        have e7 := hb7.size
        have e8 := hb8.size
        simp at e5
        omega
      go_roundw
      case rel => exact ⟨k + 1, out ++ [36] ++ [x.1] ++ q.data.toList, by omega, by go_num, Lib.hid (by rw [HST.out, hO.out]; simp), by simp only [List.length_append, List.length_cons, List.length_nil, ← Lib.size_eq]; omega, hlt8, hI8, hb18⟩
      case measure => simp [intOf]; omega
    · obtain rfl : k = f.subs.length := by omega
      have hO2 := hO.out
      rw [List.take_length] at hO2
      have HL : Hid (Rc.line f = out) := Lib.hid (by rw [hO2, ← HP0.out]; rfl)
      clear hO hO2
      go_wp2_with (go_at_call 58; refine (Tryz.Builder_String_any_f w1.heap.size w1.heap.size out _ hI hb.size).mono ?_; rintro e w5 ⟨rfl, hI5, hb5⟩)
      go_ret2
      rw [HL.out]
      exact ⟨rfl, Tx.step hB (Tx.step hb1 (hb.trans hb5))⟩
end Go.Proofs.YtlinaeklhkfbcaaGreatDoor
