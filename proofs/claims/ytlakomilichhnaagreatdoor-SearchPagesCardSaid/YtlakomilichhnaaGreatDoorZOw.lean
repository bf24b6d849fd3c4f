/- Texts of this seat's, what the claim needs of them. -/
import Derived.Test.YtlakomilichhnaaGreatDoorZOu
import Derived.Test.YtlakomilichhnaaGreatDoorZOc
import Derived.BigQuiet
import Derived.Test.YtlakomilichhnaaGreatDoorZOv
import Derived.Test.YtlakomilichhnaaGreatDoorZOx
import Derived.Defers
import Derived.Recover
import Derived.Laws.Pointers
import Derived.BigRegion
namespace Go.Proofs.YtlakomilichhnaaGreatDoor
open Go.RowKit
set_option maxRecDepth 100000
theorem info_tok : (Tryz.prog.info? 205).map (fun i => (i.zero, i.size, i.bytes)) = some (some (.agg #[.int .u8 0, .string ⟨#[]⟩, .bool false]), 3, 32) := by kernel_rfl
theorem Qr.idx_c {s : ByteArray} {k : Nat} : Lib.indexByte (s.extract (k + 1) s.size).data.toList 34 = Lib.indexByte (s.data.toList.drop (k + 1)) 34 := by
 rw [Lib.extract_data, List.take_of_length_le (by rw [List.length_drop, Lib.size_eq]; exact Nat.le_refl _)]
theorem Qr.ext_eq (s : ByteArray) (a b : Nat) : (⟨((s.data.toList.drop a).take (b - a)).toArray⟩ : ByteArray) = s.extract a b := by
 apply ByteArray.ext
 apply Array.toList_inj.1
 rw [Lib.extract_data]
theorem Tx.own_set {w : World} {B e size n : Nat} {v : Value} {xs : List Value} {a : Addr} (ho : w.ownsRow B e size v n xs) (hne : ∀ b, v.ownBlock = some b → b ≠ a.block) (u : Value) : (w.setCell a u).ownsRow B e size v n xs := by
 refine ⟨ho.1, ?_⟩
 rcases ho.2 with h1 | ⟨k, cap, cur, h1, h2, h3, h4⟩
 ·exact .inl h1
 ·exact .inr ⟨k, cap, cur, h1, h2, Tx.blk_far h3 (hne k (by rw [h1]; rfl)) u, h4⟩
set_option maxHeartbeats 3200000 in
theorem tokens_c (s : ByteArray) (w : World) (hs : s.size ≤ 100000) :
  Calls Tryz.prog 116 #[.string s] w fun e w' => ∃ v, e = .returned v ∧ w'.ownsRow w.heap.size 205 3 v (Qr.tokens s.data.toList).length ((Qr.tokens s.data.toList).flatMap Qr.encT) ∧ Below w.heap.size w w' := by
 obtain ⟨i0, hi0, hz0, hz1, hz2⟩ := info_parts info_tok
 have HI := Lib.hid hi0; clear hi0
 go_enter Tryz.func116, Tryz.ntmps116
 go_wp2
 go_loopw [3, 4, 5] (fun v gv i wr => ∃ (k : Nat) (out : List Qr.Tok) (gl : Bool), k ≤ s.size ∧ i = .int .i64 k ∧ gv = .bool gl ∧ Hid (out ++ Qr.tokF gl (s.data.toList.drop k) = Qr.tokens s.data.toList) ∧ out.length ≤ k ∧ wr.ownsRow w.heap.size 205 3 v out.length (out.flatMap Qr.encT) ∧ Below w.heap.size w wr) (fun _ _ i _ => s.size - (intOf i).toNat)
 case atStart => exact ⟨0, [], false, Nat.zero_le _, rfl, rfl, Lib.hid (by rw [List.drop_zero]; rfl), Nat.zero_le _, World.ownsRow_nil _ _ _ _, Below.refl _ _⟩
 case round =>
  obtain ⟨k, out, gl, hk, rfl, rfl, hT, hol, hown, hb⟩ := hrel
  have hbs := hb.size
  by_cases hlt : k < s.size
  ·have hdr := Qr.drop_at hlt
   obtain ⟨c, hc⟩ : ∃ c, s[k]'hlt = c := ⟨_, rfl⟩
   rw [hc] at hdr
   have hcc : ∀ h, s[k]'h = c := fun _ => hc
   clear hc
   have HT := Lib.hid hT.out
   rw [hdr] at HT
   have HT2 := Lib.hid HT.out; clear HT hT hdr
   by_cases c32 : c = 32
   ·subst c32
    have HN : Hid (out ++ Qr.tokF false (s.data.toList.drop (k + 1)) = Qr.tokens s.data.toList) := Lib.hid (by rw [← HT2.out, Qr.tokF_blank])
    go_wp2
    go_roundw
    case rel => exact ⟨k + 1, out, false, hlt, by go_num, rfl, HN, by omega, hown.alloc _, hb.trans ((Tx.newb _ _).mono hb.size)⟩
    case measure => simp [intOf]; omega
   ·have n32 : ((c.toNat : Int) == 32) = false := beq_eq_false_iff_ne.2 (Qr.kn (n := 32) (by decide) c32)
    by_cases csg : c = 40 ∨ c = 41 ∨ c = 58 ∨ c = 42
    ·have HN : Hid ((out ++ [⟨c, [], gl⟩]) ++ Qr.tokF true (s.data.toList.drop (k + 1)) = Qr.tokens s.data.toList) := Lib.hid (by rw [← HT2.out, Qr.tokF_sign gl _ csg, List.append_assoc]; rfl)
     clear c32 n32
     rcases csg with rfl | rfl | rfl | rfl
     all_goals
      go_wp2_with (at_builtin; go_must (refine wpList_append_sl rfl _ _ 126 rfl w.heap.size 205 i0 _ 3 32 Tryz.underlying126 HI.out hz0 hz1 hz2 rfl (by decide) _ out.length _ rfl ((hown.alloc _).alloc _) (some ⟨_, 0, none⟩) 1 1 [.int .u8 _, .string ⟨#[]⟩, .bool gl] rfl rfl (fun h9 => by cases h9) (fun ad had => by cases had; exact Br.cells_new_at _ _ (by first | rfl | simp) _ _) (by simp [Value.oneCell']) (by unfold maxLen; omega) (by omega) (by simp; omega) ?_); intro v' w7 hown7 hg7 hnil7)
      go_roundw
      case rel => exact ⟨k + 1, _, true, hlt, by go_num, rfl, HN, by rw [List.length_append]; simp; omega, by rw [List.length_append, List.flatMap_append]; exact hown7, ((hb.trans ((Tx.newb _ _).mono hb.size)).trans ((Tx.newb _ _).mono (by simp; omega))).grown hg7 (by simp; omega) (fun j hj => (hown.lt j hj).1)⟩
      case measure => simp [intOf]; omega
    ·by_cases c34 : c = 34
     ·subst c34
      have hIX := Qr.idx_c (s := s) (k := k)
      clear csg c32 n32
      rcases Sp.indexByte_cut 34 (s.data.toList.drop (k + 1)) with ⟨h1, h2⟩ | ⟨i, h1, h2⟩
      ·have HN : Hid ((out ++ [⟨34, [], gl⟩]) ++ Qr.tokF true (s.data.toList.drop (k + 1)) = Qr.tokens s.data.toList) := Lib.hid (by rw [← HT2.out, Qr.tokF_open gl _ h2, List.append_assoc]; rfl)
       rw [h1] at hIX
       have HIX := Lib.hid hIX; clear hIX h1 h2
       go_wp2_with (first
        | (at_builtin; go_must (refine wpList_append_sl rfl _ _ 126 rfl w.heap.size 205 i0 _ 3 32 Tryz.underlying126 HI.out hz0 hz1 hz2 rfl (by decide) _ out.length _ rfl ((hown.alloc _).alloc _) (some ⟨_, 0, none⟩) 1 1 [.int .u8 _, .string ⟨#[]⟩, .bool gl] rfl rfl (fun h9 => by cases h9) (fun ad had => by cases had; exact Br.cells_new_at _ _ (by first | rfl | simp) _ _) (by simp [Value.oneCell']) (by unfold maxLen; omega) (by omega) (by simp; omega) ?_); intro v' w7 hown7 hg7 hnil7)
        | (go_at_call 185; refine (Tryz.strings_IndexByte _ 34 _).mono ?_; rintro e w5 ⟨rfl, rfl⟩; rw [show (34 : Int).toNat.toUInt8 = 34 from rfl, HIX.out]))
       go_roundw
       case rel => exact ⟨k + 1, _, true, hlt, by go_num, rfl, HN, by rw [List.length_append]; simp; omega, by rw [List.length_append, List.flatMap_append]; exact hown7, ((hb.trans ((Tx.newb _ _).mono hb.size)).trans ((Tx.newb _ _).mono (by simp; omega))).grown hg7 (by simp; omega) (fun j hj => (hown.lt j hj).1)⟩
       case measure => simp [intOf]; omega
      ·have hil : k + 1 + i < s.size := by
        have := (Lib.indexByte_some h1).1
        have := (List.getElem?_eq_some_iff.1 this).1
        rw [List.length_drop, ← Lib.size_eq] at this
        omega
       have HN : Hid ((out ++ [⟨113, (s.data.toList.drop (k + 1)).take i, gl⟩]) ++ Qr.tokF true (s.data.toList.drop (k + (i + 2))) = Qr.tokens s.data.toList) := Lib.hid (by rw [← HT2.out, Qr.tokF_quote gl _ h2, List.append_assoc, List.drop_drop, show k + 1 + (i + 1) = k + (i + 2) by omega]; rfl)
       have hxe := Qr.ext_eq s (k + 1) (k + 1 + i)
       rw [Nat.add_sub_cancel_left] at hxe
       have HXE := Lib.hid hxe; clear hxe
       rw [h1] at hIX
       have HIX := Lib.hid hIX; clear hIX h1 h2
       have hw1 := IntWalk.i64_in ((k : Int) + 1) ⟨by omega, by omega⟩
       have hw2 := IntWalk.i64_in ((k : Int) + 1 + (i : Int)) ⟨by omega, by omega⟩
       have hw3 := IntWalk.i64_in ((i : Int) + 2) ⟨by omega, by omega⟩
       go_wp2_with (first
        | (go_at_call 185; refine (Tryz.strings_IndexByte _ 34 _).mono ?_; rintro e w5 ⟨rfl, rfl⟩; rw [show (34 : Int).toNat.toUInt8 = 34 from rfl, HIX.out]))
       obtain ⟨W6, hW6⟩ : ∃ W6, W6 = wr.alloc (.cells #[.int .u8 34, .string ⟨#[]⟩, .bool gl] 205) := ⟨_, rfl⟩
       have k6 : W6.heap[wr.heap.size]? = some (.cells #[.int .u8 34, .string ⟨#[]⟩, .bool gl] 205 (0, 0)) := by rw [hW6]; exact heap_alloc_new _ _
       have b6 : Below wr.heap.size wr W6 := by rw [hW6]; exact Tx.newb _ _
       have own6 := Tx.own_later b6 hown
       rw [← hW6]
       clear hW6
       obtain ⟨c6, f6, l6⟩ := Tx.blk k6
       have c60 := c6 0
       have c61 := c6 1
       have c62 := c6 2
       clear c6
       have hne6 : ∀ b, u3.ownBlock = some b → b ≠ wr.heap.size := fun b hb => by have := (hown.lt b hb).2; omega
       have HNE := Lib.hid hne6; clear hne6
       go_region
       obtain ⟨W8, hW8⟩ : ∃ W8, W8 = ((W6.setCell ⟨wr.heap.size, 0, none⟩ (.int .u8 113)).setCell ⟨wr.heap.size, 1, none⟩ (.string (s.extract (k + 1) (k + 1 + i)))).drew := ⟨_, rfl⟩
       have k8 : W8.heap[wr.heap.size]? = some (.cells #[.int .u8 113, .string (s.extract (k + 1) (k + 1 + i)), .bool gl] 205 (0, 0)) := by
        rw [hW8]
        have := Tx.blk_set (i := 1) (Tx.blk_set (i := 0) k6 (.int .u8 113)) (.string (s.extract (k + 1) (k + 1 + i)))
        exact (by simpa using this : ((W6.setCell ⟨wr.heap.size, 0, none⟩ (.int .u8 113)).setCell ⟨wr.heap.size, 1, none⟩ (.string (s.extract (k + 1) (k + 1 + i)))).heap[wr.heap.size]? = some (.cells #[.int .u8 113, .string (s.extract (k + 1) (k + 1 + i)), .bool gl] 205 (0, 0)))
       have own8 : W8.ownsRow w.heap.size 205 3 u3 out.length (out.flatMap Qr.encT) := by rw [hW8]; exact Tx.own_set (Tx.own_set own6 HNE.out _) HNE.out _
       have b8 : Below w.heap.size w W8 := by rw [hW8]; exact (((hb.trans (b6.mono hb.size)).setCell (show w.heap.size ≤ wr.heap.size by omega) _).setCell (show w.heap.size ≤ wr.heap.size by omega) _).drew
       have s8 := b8.size
       rw [← hW8]
       clear hW8 own6 b6 k6 c60 c61 c62 f6 l6
       obtain ⟨c8, f8, l8⟩ := Tx.blk k8
       have c80 := c8 0
       have c81 := c8 1
       have c82 := c8 2
       clear c8
       go_wp2_with (at_builtin; go_must (refine wpList_append_sl rfl _ _ 126 rfl w.heap.size 205 i0 _ 3 32 Tryz.underlying126 HI.out hz0 hz1 hz2 rfl (by decide) _ out.length _ rfl (own8.alloc _) (some ⟨_, 0, none⟩) 1 1 [.int .u8 113, .string (s.extract (k + 1) (k + 1 + i)), .bool gl] rfl rfl (fun h9 => by cases h9) (fun ad had => by cases had; exact Br.cells_new_at _ _ (by first | rfl | simp) _ _) (by simp [Value.oneCell']) (by unfold maxLen; omega) (by omega) (by simp; omega) ?_); intro v' w7 hown7 hg7 hnil7)
       go_roundw
       case rel => exact ⟨k + (i + 2), _, true, by omega, by go_num, rfl, HN, by rw [List.length_append]; simp; omega, by rw [List.length_append, List.flatMap_append]; have h9 := hown7; rw [← HXE.out] at h9; exact h9, (b8.alloc (by omega) _).grown hg7 (by simp; omega) (fun j hj => (hown.lt j hj).1)⟩
       case measure => simp [intOf]; omega
     ·have hns : Qr.sgn c = false := by
       unfold Qr.sgn
       simp only [Bool.or_eq_false_iff, beq_eq_false_iff_ne]
       exact ⟨⟨⟨⟨⟨c32, fun h => csg (.inl h)⟩, fun h => csg (.inr (.inl h))⟩, fun h => csg (.inr (.inr (.inl h)))⟩, fun h => csg (.inr (.inr (.inr h)))⟩, c34⟩
      have n40 : ((c.toNat : Int) == 40) = false := beq_eq_false_iff_ne.2 (Qr.kn (n := 40) (by decide) (fun h => csg (.inl h)))
      have n41 : ((c.toNat : Int) == 41) = false := beq_eq_false_iff_ne.2 (Qr.kn (n := 41) (by decide) (fun h => csg (.inr (.inl h))))
      have n58 : ((c.toNat : Int) == 58) = false := beq_eq_false_iff_ne.2 (Qr.kn (n := 58) (by decide) (fun h => csg (.inr (.inr (.inl h)))))
      have n42 : ((c.toNat : Int) == 42) = false := beq_eq_false_iff_ne.2 (Qr.kn (n := 42) (by decide) (fun h => csg (.inr (.inr (.inr h)))))
      have n34 : ((c.toNat : Int) == 34) = false := beq_eq_false_iff_ne.2 (Qr.kn (n := 34) (by decide) c34)
      have HNS := Lib.hid hns; clear hns csg c34 c32
      have HDR : Hid (s.data.toList.drop k = c :: s.data.toList.drop (k + 1)) := Lib.hid (by rw [Qr.drop_at hlt, hcc])
      generalize wr = wo at *
      go_wp2
      obtain ⟨W6, hW6⟩ : ∃ W6, W6 = wo.alloc (.cells #[.int .u8 c.toNat, .string ⟨#[]⟩, .bool gl] 205) := ⟨_, rfl⟩
      have k6 : W6.heap[wo.heap.size]? = some (.cells #[.int .u8 c.toNat, .string ⟨#[]⟩, .bool gl] 205 (0, 0)) := by rw [hW6]; exact heap_alloc_new _ _
      have b6 : Below wo.heap.size wo W6 := by rw [hW6]; exact Tx.newb _ _
      have own6 := Tx.own_later b6 hown
      rw [← hW6]
      clear hW6
      have HNE : Hid (∀ b, u3.ownBlock = some b → b ≠ wo.heap.size) := Lib.hid (fun b hb => by have := (hown.lt b hb).2; omega)
      go_loopw [7] (fun nv wr => ∃ n : Nat, 1 ≤ n ∧ k + n ≤ s.size ∧ nv = .int .i64 n ∧ Hid (∀ j, 1 ≤ j → j < n → ∀ h : k + j < s.size, Qr.sgn (s[k + j]'h) = false) ∧ wr = W6) (fun nv _ => s.size - (intOf nv).toNat)
      case atStart => exact ⟨1, by omega, hlt, rfl, Lib.hid (fun j h1 h2 => by omega), rfl⟩
      case round =>
       obtain ⟨n, hn1, hn2, rfl, hin, hwr⟩ := hrel
       have hwr' : W6 = wr := hwr.symm
       clear hwr
       subst hwr'
       obtain ⟨c6, f6, l6⟩ := Tx.blk k6
       have c60 := c6 0
       have c61 := c6 1
       have c62 := c6 2
       clear c6
       obtain ⟨N, hN⟩ : ∃ N, k + n = N := ⟨_, rfl⟩
       have hNi : (k : Int) + (n : Int) = (N : Int) := by omega
       have hw := IntWalk.i64_in (N : Int) ⟨by omega, by omega⟩
       have hNk : (k : Int) ≤ (N : Int) := by omega
       have hNs : (N : Int) ≤ (s.size : Int) := by omega
       by_cases hlt2 : N < s.size
       ·have hltk : k + n < s.size := by omega
        obtain ⟨d, hd⟩ : ∃ d, s[N]'hlt2 = d := ⟨_, rfl⟩
        have hkd : ∀ h : k + n < s.size, s[k + n]'h = d := fun h => by rw [← hd]; congr 1
        have HKD := Lib.hid hkd; clear hkd
        have hdd : ∀ h, s[N]'h = d := fun _ => hd
        clear hd
        have hix : Lib.indexByte (⟨#[32, 40, 41, 58, 42, 34]⟩ : ByteArray).data.toList (d.toNat : Int).toNat.toUInt8 = Lib.indexByte [32, 40, 41, 58, 42, 34] d := by
         rw [Int.toNat_natCast]
         congr 1
         exact UInt8.ofNat_toNat
        obtain ⟨IX, hIX⟩ : ∃ IX, Lib.indexByte [32, 40, 41, 58, 42, 34] d = IX := ⟨_, rfl⟩
        have hsi := Qr.sgn_index d
        rw [hIX] at hix hsi
        have HIX := Lib.hid hix; clear hix hIX
        cases hsd : Qr.sgn d with
        | false =>
         have hix0 : IX < 0 := hsi.2 hsd
         have HI2 : Hid (∀ j, 1 ≤ j → j < n + 1 → ∀ h : k + j < s.size, Qr.sgn (s[k + j]'h) = false) := Lib.hid (fun j h1 h2 h => by
          by_cases hj : j < n
          ·exact hin.out j h1 hj h
          ·obtain rfl : j = n := by omega
           rw [HKD.out]
           exact hsd)
         clear hsi hsd
         go_wp2_with (go_at_call 185; refine (Tryz.strings_IndexByte ⟨#[32, 40, 41, 58, 42, 34]⟩ (d.toNat : Int) _).mono ?_; rintro e w5 ⟨rfl, hw5⟩; have hw5' := hw5.symm; clear hw5; subst hw5'; rw [HIX.out])
         go_roundw
         case rel => exact ⟨n + 1, by omega, by omega, by go_num, HI2, by first | trivial | rfl⟩
         case measure => simp [intOf]; omega
        | true =>
         have hix0 : ¬ IX < 0 := fun h => by rw [hsi.1 h] at hsd; cases hsd
         have HO : ∀ h : k + n < s.size, Qr.sgn (s[k + n]'h) = true := fun h => by rw [HKD.out]; exact hsd
         clear hsi hsd
         have hre := Qr.run_at (s := s) (k := k) (n := n) hn1 hn2 hin.out HO
         have hrl : (Qr.run (s.data.toList.drop (k + 1))).length = n - 1 := by
          rw [hre, List.length_take, List.length_drop, ← Lib.size_eq]
          omega
         have HN : Hid ((out ++ [⟨114, c :: Qr.run (s.data.toList.drop (k + 1)), gl⟩]) ++ Qr.tokF true (s.data.toList.drop (k + n)) = Qr.tokens s.data.toList) := Lib.hid (by rw [← HT2.out, Qr.tokF_run gl _ HNS.out, hrl, List.drop_drop, show k + 1 + (n - 1) = k + n by omega, List.append_assoc]; rfl)
         have hxe := Qr.ext_eq s k N
         rw [HDR.out, show N - k = (n - 1) + 1 by omega, List.take_succ_cons, ← hre] at hxe
         have HXE := Lib.hid hxe; clear hxe hrl hre
         go_wp2_with (go_at_call 185; refine (Tryz.strings_IndexByte ⟨#[32, 40, 41, 58, 42, 34]⟩ (d.toNat : Int) _).mono ?_; rintro e w5 ⟨rfl, hw5⟩; have hw5' := hw5.symm; clear hw5; subst hw5'; rw [HIX.out])
         go_region
         obtain ⟨W8, hW8⟩ : ∃ W8, W8 = ((W6.setCell ⟨wo.heap.size, 0, none⟩ (.int .u8 114)).setCell ⟨wo.heap.size, 1, none⟩ (.string (s.extract k N))).drew := ⟨_, rfl⟩
         have k8 : W8.heap[wo.heap.size]? = some (.cells #[.int .u8 114, .string (s.extract k N), .bool gl] 205 (0, 0)) := by
          rw [hW8]
          have := Tx.blk_set (i := 1) (Tx.blk_set (i := 0) k6 (.int .u8 114)) (.string (s.extract k N))
          exact (by simpa using this : ((W6.setCell ⟨wo.heap.size, 0, none⟩ (.int .u8 114)).setCell ⟨wo.heap.size, 1, none⟩ (.string (s.extract k N))).heap[wo.heap.size]? = some (.cells #[.int .u8 114, .string (s.extract k N), .bool gl] 205 (0, 0)))
         have own8 : W8.ownsRow w.heap.size 205 3 u3 out.length (out.flatMap Qr.encT) := by rw [hW8]; exact Tx.own_set (Tx.own_set own6 HNE.out _) HNE.out _
         have b8 : Below w.heap.size w W8 := by rw [hW8]; exact (((hb.trans (b6.mono hb.size)).setCell (show w.heap.size ≤ wo.heap.size by omega) _).setCell (show w.heap.size ≤ wo.heap.size by omega) _).drew
         have s8 := b8.size
         rw [← hW8]
         clear hW8 own6 b6 k6 c60 c61 c62 f6 l6
         obtain ⟨c8, f8, l8⟩ := Tx.blk k8
         have c80 := c8 0
         have c81 := c8 1
         have c82 := c8 2
         clear c8
         go_wp2_with (at_builtin; go_must (refine wpList_append_sl rfl _ _ 126 rfl w.heap.size 205 i0 _ 3 32 Tryz.underlying126 HI.out hz0 hz1 hz2 rfl (by decide) _ out.length _ rfl (own8.alloc _) (some ⟨_, 0, none⟩) 1 1 [.int .u8 114, .string (s.extract k N), .bool gl] rfl rfl (fun h9 => by cases h9) (fun ad had => by cases had; exact Br.cells_new_at _ _ (by first | rfl | simp) _ _) (by simp [Value.oneCell']) (by unfold maxLen; omega) (by omega) (by simp; omega) ?_); intro v' w7 hown7 hg7 hnil7)
         go_roundw
         case rel => exact ⟨k + n, _, true, hn2, by go_num, rfl, HN, by rw [List.length_append]; simp; omega, by rw [List.length_append, List.flatMap_append]; have h9 := hown7; rw [← HXE.out] at h9; exact h9, (b8.alloc (by omega) _).grown hg7 (by simp; omega) (fun j hj => (hown.lt j hj).1)⟩
         case measure => simp [intOf]; omega
       ·have HO : ∀ h : k + n < s.size, Qr.sgn (s[k + n]'h) = true := fun h => by omega
        have hre := Qr.run_at (s := s) (k := k) (n := n) hn1 hn2 hin.out HO
        have hrl : (Qr.run (s.data.toList.drop (k + 1))).length = n - 1 := by
         rw [hre, List.length_take, List.length_drop, ← Lib.size_eq]
         omega
        have HN : Hid ((out ++ [⟨114, c :: Qr.run (s.data.toList.drop (k + 1)), gl⟩]) ++ Qr.tokF true (s.data.toList.drop (k + n)) = Qr.tokens s.data.toList) := Lib.hid (by rw [← HT2.out, Qr.tokF_run gl _ HNS.out, hrl, List.drop_drop, show k + 1 + (n - 1) = k + n by omega, List.append_assoc]; rfl)
        have hxe := Qr.ext_eq s k N
        rw [HDR.out, show N - k = (n - 1) + 1 by omega, List.take_succ_cons, ← hre] at hxe
        have HXE := Lib.hid hxe; clear hxe hrl hre
        go_wp2
        go_region
        obtain ⟨W8, hW8⟩ : ∃ W8, W8 = ((W6.setCell ⟨wo.heap.size, 0, none⟩ (.int .u8 114)).setCell ⟨wo.heap.size, 1, none⟩ (.string (s.extract k N))).drew := ⟨_, rfl⟩
        have k8 : W8.heap[wo.heap.size]? = some (.cells #[.int .u8 114, .string (s.extract k N), .bool gl] 205 (0, 0)) := by
         rw [hW8]
         have := Tx.blk_set (i := 1) (Tx.blk_set (i := 0) k6 (.int .u8 114)) (.string (s.extract k N))
         exact (by simpa using this : ((W6.setCell ⟨wo.heap.size, 0, none⟩ (.int .u8 114)).setCell ⟨wo.heap.size, 1, none⟩ (.string (s.extract k N))).heap[wo.heap.size]? = some (.cells #[.int .u8 114, .string (s.extract k N), .bool gl] 205 (0, 0)))
        have own8 : W8.ownsRow w.heap.size 205 3 u3 out.length (out.flatMap Qr.encT) := by rw [hW8]; exact Tx.own_set (Tx.own_set own6 HNE.out _) HNE.out _
        have b8 : Below w.heap.size w W8 := by rw [hW8]; exact (((hb.trans (b6.mono hb.size)).setCell (show w.heap.size ≤ wo.heap.size by omega) _).setCell (show w.heap.size ≤ wo.heap.size by omega) _).drew
        have s8 := b8.size
        rw [← hW8]
        clear hW8 own6 b6 k6 c60 c61 c62 f6 l6
        obtain ⟨c8, f8, l8⟩ := Tx.blk k8
        have c80 := c8 0
        have c81 := c8 1
        have c82 := c8 2
        clear c8
        go_wp2_with (at_builtin; go_must (refine wpList_append_sl rfl _ _ 126 rfl w.heap.size 205 i0 _ 3 32 Tryz.underlying126 HI.out hz0 hz1 hz2 rfl (by decide) _ out.length _ rfl (own8.alloc _) (some ⟨_, 0, none⟩) 1 1 [.int .u8 114, .string (s.extract k N), .bool gl] rfl rfl (fun h9 => by cases h9) (fun ad had => by cases had; exact Br.cells_new_at _ _ (by first | rfl | simp) _ _) (by simp [Value.oneCell']) (by unfold maxLen; omega) (by omega) (by simp; omega) ?_); intro v' w7 hown7 hg7 hnil7)
        go_roundw
        case rel => exact ⟨k + n, _, true, hn2, by go_num, rfl, HN, by rw [List.length_append]; simp; omega, by rw [List.length_append, List.flatMap_append]; have h9 := hown7; rw [← HXE.out] at h9; exact h9, (b8.alloc (by omega) _).grown hg7 (by simp; omega) (fun j hj => (hown.lt j hj).1)⟩
        case measure => simp [intOf]; omega
  ·go_wp2
   go_ret
   have hd : s.data.toList.drop k = [] := List.drop_eq_nil_of_le (by rw [← Lib.size_eq]; omega)
   have := hT.out
   rw [hd, Qr.tokF_nil, List.append_nil] at this
   rw [← this]
   exact ⟨_, rfl, hown, hb⟩
end Go.Proofs.YtlakomilichhnaaGreatDoor
namespace Go.Proofs.YtlakomilichhnaaGreatDoor
open Go.RowKit
set_option maxRecDepth 100000
set_option maxHeartbeats 1600000 in
theorem catch_panic (a b : Nat) (u : TypeId) (pv v0 v1 v2 v3 v4 v5 v6 : Value) (older : List PanicEntry) (w : World)
  (h0 : w.cell? ⟨a, 0, none⟩ = some v0) (h1 : w.cell? ⟨a, 1, none⟩ = some v1) (h2 : w.cell? ⟨a, 2, none⟩ = some v2) (h3 : w.cell? ⟨a, 3, none⟩ = some v3) (h4 : w.cell? ⟨a, 4, none⟩ = some v4) (h5 : w.cell? ⟨a, 5, none⟩ = some v5) (h6 : w.cell? ⟨b, 0, none⟩ = some v6)
  (hf : ∀ i, w.frozen? ⟨a, i, none⟩ = false) (hg : ∀ i, w.frozen? ⟨b, i, none⟩ = false) (hba : ¬ b = a) :
  CallsD Tryz.prog 115 #[.pointer (some ⟨a, 0, none⟩), .pointer (some ⟨b, 0, none⟩)] (.panicking ({ v := .iface u pv, recovered := false } :: older)) w fun e u' w' =>
   e = .returned (.tuple #[]) ∧ u' = .panicking ({ v := .iface u pv, recovered := true } :: older) ∧ w' = (((((((w.setCell ⟨a, 0, none⟩ (.int .i64 0)).setCell ⟨a, 1, none⟩ (.int .i64 0)).setCell ⟨a, 2, none⟩ (.slice none 0 0)).setCell ⟨a, 3, none⟩ (.int .i64 0)).setCell ⟨a, 4, none⟩ (.int .i64 0)).setCell ⟨a, 5, none⟩ (.slice none 0 0)).setCell ⟨b, 0, none⟩ (.int .i64 3)) := by
 refine callsD_of_wpS Tryz.func115 rfl fun c₀ cs hu => ?_
 apply wpS_seq
 apply wpS_region
 simp [wpOpsS, go_sem, recoverD, hu, Tryz.ntmps115, Exit.thenS]
 refine wpS_cond (t := true) (by simp [Act.eval, Array.replicate]) ?_
 simp only [if_true]
 apply wpS_region
 simp [wpOpsS, go_sem, h0, h1, h2, h3, h4, h5, h6, hf, hg, bodyPostS, results, Tryz.results115]
theorem catch_idle (a b : Nat) (w : World) :
  CallsD Tryz.prog 115 #[.pointer (some ⟨a, 0, none⟩), .pointer (some ⟨b, 0, none⟩)] .returning w fun e u' w' => e = .returned (.tuple #[]) ∧ u' = .returning ∧ w' = w := by
 refine callsD_of_wpS Tryz.func115 rfl fun c₀ cs hu => ?_
 apply wpS_seq
 apply wpS_region
 simp [wpOpsS, go_sem, recoverD, hu, Tryz.ntmps115, Exit.thenS]
 refine wpS_cond (t := false) (by simp [Act.eval, Array.replicate]) ?_
 simp only [Bool.false_eq_true, if_false]
 refine wpS_of_wp (wp_skip ?_)
 cases c₀
 simp_all [bodyPostS, results, Tryz.results115]
end Go.Proofs.YtlakomilichhnaaGreatDoor
namespace Go.Proofs.YtlakomilichhnaaGreatDoor
open Go.RowKit
set_option maxRecDepth 100000
namespace Qr
def TokOk (r : List Tok) : Prop := ∀ t ∈ r, Tx.valid t.t = true ∧ t.t.length ≤ 1000
theorem TokOk.suf {r r' : List Tok} (h : TokOk r) (hs : r' <:+ r) : TokOk r' := fun t ht => h t (hs.subset ht)
def WB (x : PR) : Prop := ∀ q r', x = some (q, r') → Wz 1000000 q
theorem words_size {t : By} (hv : Tx.valid t = true) (hl : t.length ≤ 1000) : ∀ x ∈ wordsB t, x.size ≤ 1000000 := by
 intro x hx
 unfold wordsB at hx
 rw [List.mem_map] at hx
 obtain ⟨y, hy, rfl⟩ := hx
 rw [Tx.size_mk]
 have h1 := (Tx.fieldsT_good Tx.sepW (Tx.foldS_valid hv)).2.1
 have h2 := Tx.foldS_len hv
 have h3 : ∀ (l : List By) (y : By), y ∈ l → y.length ≤ Lib.lens l := by
  intro l
  induction l with
  | nil => intro y h; simp at h
  | cons z r ih =>
   intro y h
   have e : Lib.lens (z :: r) = z.length + Lib.lens r := by simp [Lib.lens]
   rw [List.mem_cons] at h
   rcases h with rfl | h
   ·omega
   ·have := ih y h; omega
 have h4 := h3 _ y hy
 unfold Tx.words at h4
 omega
theorem leaf_w (o f a b : Int) (ws : List ByteArray) (h : ∀ x ∈ ws, x.size ≤ 1000000) : Wz 1000000 (.mk o f ws a b []) := .mk h (fun k hk => by simp at hk)
theorem years_w (st : Bool) (r : List Tok) : WB (pYears st r) := by
 intro q r' h
 unfold pYears at h
 repeat' split at h
 all_goals first | (cases h; done) | (injection h with h; injection h with h _; rw [← h]; exact leaf_w _ _ _ _ _ (fun x hx => by simp at hx))
theorem term_w (st : Bool) (f : Int) (r : List Tok) (hr : TokOk r) : WB (pTerm st f r) := by
 intro q r' h
 by_cases hw : word0 r = true
 ·have hok := hr _ (lk_mem (word0_ne hw))
  unfold pTerm at h
  repeat' split at h
  all_goals first | (cases h; done) | (injection h with h; injection h with h _; rw [← h]; exact leaf_w _ _ _ _ _ (words_size hok.1 hok.2))
 ·unfold pTerm at h
  rw [if_pos (by simpa using hw)] at h
  cases h
theorem flat_w (st : Bool) (r : List Tok) (hr : TokOk r) : WB (pFlat st r) := by
 intro q r' h
 have h2 : TokOk r.tail.tail := hr.suf ((List.tail_suffix _).trans (List.tail_suffix _))
 unfold pFlat at h
 repeat' split at h
 all_goals first | (cases h; done) | exact years_w _ _ _ _ h | exact term_w _ _ _ h2 _ _ h | exact term_w _ _ _ hr _ _ h
theorem joined_w (op : Int) (l : List Qy) (h : ∀ k ∈ l, Wz 1000000 k) : Wz 1000000 (joined op l) := by
 by_cases h1 : l.length = 1
 ·match l, h1 with
  | [x], _ => exact h x (by simp)
 ·rw [joined_many op l h1]
  refine .mk (fun x hx => by simp at hx) (fun k hk => ?_)
  rw [List.mem_flatMap] at hk
  obtain ⟨y, hy, hk⟩ := hk
  unfold flat at hk
  have hy2 := h y hy
  split at hk
  ·cases hy2 with
   | mk _ h4 => exact h4 k hk
  ·rw [List.mem_singleton] at hk
   rw [hk]
   exact hy2
theorem wz_all (st : Bool) : ∀ n, (∀ r, TokOk r → WB (pOr st n r)) ∧ (∀ acc r, TokOk r → (∀ k ∈ acc, Wz 1000000 k) → WB (lOr st n acc r)) ∧ (∀ r, TokOk r → WB (pAnd st n r)) ∧ (∀ acc r, TokOk r → (∀ k ∈ acc, Wz 1000000 k) → WB (lAnd st n acc r)) ∧ (∀ r, TokOk r → WB (pNot st n r)) ∧ (∀ r, TokOk r → WB (pPrim st n r))
 | 0 => ⟨fun r _ q r' h => by simp [pOr] at h, fun _ _ _ _ q r' h => by simp [lOr] at h, fun r _ q r' h => by simp [pAnd] at h, fun _ _ _ _ q r' h => by simp [lAnd] at h, fun r _ q r' h => by simp [pNot] at h, fun r _ q r' h => by simp [pPrim] at h⟩
 | n + 1 => by
  obtain ⟨h1, h2, h3, h4, h5, h6⟩ := wz_all st n
  obtain ⟨e1, _, e3, _, e5, e6⟩ := eats_all st n
  have one : ∀ q, Wz 1000000 q → ∀ k ∈ [q], Wz 1000000 k := fun q h k hk => by rw [List.mem_singleton] at hk; rw [hk]; exact h
  have app : ∀ (acc : List Qy) q, (∀ k ∈ acc, Wz 1000000 k) → Wz 1000000 q → ∀ k ∈ acc ++ [q], Wz 1000000 k := fun acc q h hq k hk => by
   rw [List.mem_append, List.mem_singleton] at hk
   rcases hk with hk | rfl
   ·exact h k hk
   ·exact hq
  refine ⟨fun r hr q r' h => ?_, fun acc r hr ha q r' h => ?_, fun r hr q r' h => ?_, fun acc r hr ha q r' h => ?_, fun r hr q r' h => ?_, fun r hr q r' h => ?_⟩
  ·unfold pOr at h
   split at h
   ·cases h
   ·rename_i q1 r1 he
    exact h2 [q1] r1 (hr.suf (e3 r q1 r1 he).1) (one _ (h3 r hr q1 r1 he)) q r' h
  ·unfold lOr at h
   split at h
   ·split at h
    ·cases h
    ·rename_i q1 r1 he
     have ht := hr.suf (List.tail_suffix r)
     exact h2 _ r1 (ht.suf (e3 _ q1 r1 he).1) (app _ _ ha (h3 _ ht q1 r1 he)) q r' h
   ·injection h with h; injection h with h _; rw [← h]
    exact joined_w _ _ ha
  ·unfold pAnd at h
   split at h
   ·cases h
   ·rename_i q1 r1 he
    exact h4 [q1] r1 (hr.suf (e5 r q1 r1 he).1) (one _ (h5 r hr q1 r1 he)) q r' h
  ·unfold lAnd at h
   split at h
   ·split at h
    ·cases h
    ·rename_i q1 r1 he
     have ht := hr.suf (List.tail_suffix r)
     exact h4 _ r1 (ht.suf (e5 _ q1 r1 he).1) (app _ _ ha (h5 _ ht q1 r1 he)) q r' h
   ·split at h
    ·split at h
     ·cases h
     ·rename_i q1 r1 he
      exact h4 _ r1 (hr.suf (e5 _ q1 r1 he).1) (app _ _ ha (h5 _ hr q1 r1 he)) q r' h
    ·injection h with h; injection h with h _; rw [← h]
     exact joined_w _ _ ha
  ·unfold pNot at h
   split at h
   ·cases h
   ·rename_i q1 r1 he
    have hr1 := hr.suf (e6 r q1 r1 he).1
    split at h
    ·split at h
     ·cases h
     ·rename_i q2 r2 he2
      injection h with h; injection h with h _; rw [← h]
      exact .mk (fun x hx => by simp at hx) (app [q1] q2 (one _ (h6 r hr q1 r1 he)) (h6 _ (hr1.suf (List.tail_suffix _)) q2 r2 he2))
    ·injection h with h; injection h with h _; rw [← h]
     exact h6 r hr q1 r1 he
  ·unfold pPrim at h
   split at h
   ·split at h
    ·cases h
    ·rename_i q1 r1 he
     split at h
     ·injection h with h; injection h with h _; rw [← h]
      exact h1 _ (hr.suf (List.tail_suffix _)) q1 r1 he
     ·cases h
   ·exact flat_w st r hr q r' h
theorem toks_ok : ∀ (n : Nat) (g : Bool) (l : By), l.length ≤ n → l.length ≤ 1000 → Tx.valid l = true → TokOk (toks n g l) ∧ (toks n g l).length ≤ l.length
 | 0, g, l, h, _, _ => by
  have := List.eq_nil_of_length_eq_zero (Nat.le_zero.1 h)
  subst this
  exact ⟨fun t ht => by simp [toks] at ht, by simp [toks]⟩
 | n + 1, g, [], _, _, _ => ⟨fun t ht => by simp [toks] at ht, by simp [toks]⟩
 | n + 1, g, c :: r, h, hl, hv => by
  simp only [List.length_cons] at h hl
  have asc : ∀ c : UInt8, (c = 32 ∨ c = 40 ∨ c = 41 ∨ c = 58 ∨ c = 42 ∨ c = 34) → 32 ≤ c.toNat ∧ c.toNat < 127 := fun c hc => by rcases hc with rfl | rfl | rfl | rfl | rfl | rfl <;> decide
  have tl : ∀ c : UInt8, (32 ≤ c.toNat ∧ c.toNat < 127) → ∀ (a b : By), Tx.valid (a ++ c :: b) = true → Tx.valid a = true ∧ Tx.valid b = true := fun c hc a b h => by
   have h1 := Hd.valid_cut hc _ a b (Nat.le_refl _) h
   exact ⟨h1.1, Hd.valid_tail [c] b (fun x hx => by rw [List.mem_singleton] at hx; rw [hx]; exact hc) h1.2⟩
  have cons : ∀ (t : Tok) (x : By) (g : Bool), (Tx.valid t.t = true ∧ t.t.length ≤ 1000) → x.length ≤ r.length → Tx.valid x = true → TokOk (t :: toks n g x) ∧ (t :: toks n g x).length ≤ (c :: r).length := fun t x g ht hx hvx => by
   have ih := toks_ok n g x (by omega) (by omega) hvx
   refine ⟨fun y hy => ?_, by simp only [List.length_cons]; omega⟩
   rw [List.mem_cons] at hy
   rcases hy with rfl | hy
   ·exact ht
   ·exact ih.1 y hy
  unfold toks
  by_cases h32 : c = 32
  ·rw [if_pos h32]
   have ih := toks_ok n false r (by omega) (by omega) (tl c (asc c (.inl h32)) [] r hv).2
   exact ⟨ih.1, by simp only [List.length_cons]; omega⟩
  ·rw [if_neg h32]
   by_cases hs : c = 40 ∨ c = 41 ∨ c = 58 ∨ c = 42
   ·rw [if_pos hs]
    exact cons _ r true ⟨rfl, by simp⟩ (Nat.le_refl _) (tl c (asc c (by rcases hs with h | h | h | h <;> simp [h])) [] r hv).2
   ·rw [if_neg hs]
    by_cases h34 : c = 34
    ·rw [if_pos h34]
     have hvr := (tl c (asc c (by simp [h34])) [] r hv).2
     cases hc : Sp.cut 34 r with
     | none => exact cons _ r true ⟨rfl, by simp⟩ (Nat.le_refl _) hvr
     | some p =>
      obtain ⟨x, y⟩ := p
      have hlen := Sp.cut_len hc
      have hv2 := hvr
      rw [(Sp.cut_eq hc).1] at hv2
      have := tl 34 (by decide) x y hv2
      exact cons _ y true ⟨this.1, by simp only; omega⟩ (by omega) this.2
    ·rw [if_neg h34]
     have hrl := run_le r
     have hrd : run r ++ r.drop (run r).length = r := by
      have e1 := List.takeWhile_append_dropWhile (p := fun c => !sgn c) (l := r)
      have e2 : r.drop (run r).length = r.dropWhile fun c => !sgn c := by
       conv => lhs; rw [← e1]
       unfold run
       rw [List.drop_append_of_le_length (Nat.le_of_eq (by rw [e1])), e1, List.drop_length, List.nil_append]
      rw [e2]
      exact e1
     have hsplit : c :: r = (c :: run r) ++ r.drop (run r).length := by rw [List.cons_append, hrd]
     have hv2 := hv
     rw [hsplit] at hv2
     have hb : Tx.valid (c :: run r) = true ∧ Tx.valid (r.drop (run r).length) = true := by
      cases hd : r.drop (run r).length with
      | nil =>
       rw [hd, List.append_nil] at hv2
       exact ⟨hv2, rfl⟩
      | cons d t =>
       rw [hd] at hv2
       have hsd : sgn d = true := by
        have e1 := List.takeWhile_append_dropWhile (p := fun c => !sgn c) (l := r)
        have e2 : r.dropWhile (fun c => !sgn c) = d :: t := by
         have e3 := hrd
         unfold run at e3 hd
         rw [← hd]
         exact List.append_cancel_left (e1.trans e3.symm)
        have := List.head?_dropWhile_not (fun c => !sgn c) r
        rw [e2] at this
        simpa using this
       have hda : 32 ≤ d.toNat ∧ d.toNat < 127 := by
        apply asc
        unfold sgn at hsd
        simp only [Bool.or_eq_true, beq_iff_eq] at hsd
        rcases hsd with ((((h | h) | h) | h) | h) | h <;> simp [h]
       have h1 := tl d hda (c :: run r) t hv2
       refine ⟨h1.1, ?_⟩
       have : Tx.valid ([] ++ d :: t) = true := by
        rw [List.nil_append]
        have hva := Rc.valid_append (c :: run r).length (c :: run r) (d :: t) (Nat.le_refl _) h1.1
        rw [← hva]
        exact hv2
       simpa using this
     exact cons ⟨114, c :: run r, g⟩ _ true ⟨hb.1, by simp only [List.length_cons]; omega⟩ (by rw [List.length_drop]; omega) hb.2
end Qr
end Go.Proofs.YtlakomilichhnaaGreatDoor
namespace Go.Proofs.YtlakomilichhnaaGreatDoor
open Go.RowKit
set_option maxRecDepth 100000
namespace Qr
abbrev q0 : Qy := .mk 0 0 [] 0 0 []
abbrev t0 : QT := ⟨0, 0, none, 0, 0, 0, 0, none, 0, 0⟩
theorem q0_c (B : Nat) (w : World) : QC B w q0 (encQ t0) := QC.of_kids (ws := []) (ks := []) (.inl ⟨rfl, _, _, rfl⟩) (fun h => absurd rfl h) (KA.nil _ _)
theorem parse_long {s : By} (h : 1000 < s.length) : parse s = (q0, 4) := by unfold parse; rw [if_pos h]
theorem parse_bad {s : By} (h : ¬ 1000 < s.length) (hv : Tx.valid s = false) : parse s = (q0, 3) := by unfold parse; rw [if_neg h, if_pos hv]
end Qr
set_option maxHeartbeats 1600000 in
theorem Parse_1 (s : ByteArray) (w : World) (hl : 1000 < s.size) :
  Calls Tryz.prog 54 #[.string s] w fun e w' => ∃ t, e = .returned (.tuple #[.agg (Qr.encQ t).toArray, .int .i64 (Qr.parse s.data.toList).2]) ∧ Qr.QC w.heap.size w' (Qr.parse s.data.toList).1 (Qr.encQ t) ∧ Below w.heap.size w w' := by
 rw [Qr.parse_long (by rw [← Lib.size_eq]; exact hl)]
 have g1 : (1000 : Int) < (s.size : Int) := by omega
 have hmf : ∀ (fn : Fn) (first cap : Array Value) (w : World), (Instr.makeFunc fn first cap).run Tryz.prog w = .ok (.func fn first cap) w := fun _ _ _ _ => rfl
 go_enter_defers Tryz.func54, Tryz.ntmps54
 go_wp2
 exact ⟨.tuple #[.agg (Qr.encQ Qr.t0).toArray, .int .i64 4], (by simp [results, Tryz.results54, go_sem]), Qr.t0, rfl, Qr.q0_c _ _, ((Tx.newb w _).trans ((Tx.newb _ _).mono (by simp)))⟩
set_option maxHeartbeats 1600000 in
theorem Parse_2 (s : ByteArray) (w : World) (hl : ¬ 1000 < s.size) (hv : Tx.valid s.data.toList = false) (hG : G w) :
  Calls Tryz.prog 54 #[.string s] w fun e w' => ∃ t, e = .returned (.tuple #[.agg (Qr.encQ t).toArray, .int .i64 (Qr.parse s.data.toList).2]) ∧ Qr.QC w.heap.size w' (Qr.parse s.data.toList).1 (Qr.encQ t) ∧ Below w.heap.size w w' := by
 rw [Qr.parse_bad (by rw [← Lib.size_eq]; exact hl) hv]
 have g1 : ¬ (1000 : Int) < (s.size : Int) := by omega
 have HV := Lib.hid hv; clear hv
 have hmf : ∀ (fn : Fn) (first cap : Array Value) (w : World), (Instr.makeFunc fn first cap).run Tryz.prog w = .ok (.func fn first cap) w := fun _ _ _ _ => rfl
 obtain ⟨W, hW⟩ : ∃ W, W = (w.alloc (.cells Qr.zeroQ 29)).alloc (.cells #[.int .i64 0] 44) := ⟨_, rfl⟩
 have hB : Below w.heap.size w W := by rw [hW]; exact ((Tx.newb w _).trans ((Tx.newb _ _).mono (by simp)))
 have k2 : W.heap[w.heap.size]? = some (.cells Qr.zeroQ 29 (0, 0)) := by rw [hW]; exact Tx.blk_later (heap_alloc_new w _) (Tx.newb _ _)
 have k3 : W.heap[w.heap.size + 1]? = some (.cells #[.int .i64 0] 44 (0, 0)) := by rw [hW]; simpa using heap_alloc_new (w.alloc (.cells Qr.zeroQ 29)) (.cells #[.int .i64 0] 44)
 have hWs : W.heap.size = w.heap.size + 2 := by rw [hW]; simp
 have K2 := Lib.hid k2
 have K3 := Lib.hid k3
 have hW' := hW.symm
 clear hW k2 k3
 go_enter_defers Tryz.func54, Tryz.ntmps54
 go_wp2_with (go_at_call 114; refine (text_Valid_c s W (by omega) (hG.below hB)).mono ?_; rintro e w1 ⟨rfl, hb1⟩; rw [HV.out]; have J2 := Lib.hid (Tx.blk_later K2.out hb1); have J3 := Lib.hid (Tx.blk_later K3.out hb1); have s1 := hb1.size; obtain ⟨c2, f2, l2⟩ := Tx.blk J2.out; obtain ⟨c3, f3, l3⟩ := Tx.blk J3.out; have x0 : w1.cell? ⟨w.heap.size, 0, none⟩ = some (.int .i64 0) := c2 0; have x1 : w1.cell? ⟨w.heap.size, 1, none⟩ = some (.int .i64 0) := c2 1; have x2 : w1.cell? ⟨w.heap.size, 2, none⟩ = some (.slice none 0 0) := c2 2; have x3 : w1.cell? ⟨w.heap.size, 3, none⟩ = some (.int .i64 0) := c2 3; have x4 : w1.cell? ⟨w.heap.size, 4, none⟩ = some (.int .i64 0) := c2 4; have x5 : w1.cell? ⟨w.heap.size, 5, none⟩ = some (.slice none 0 0) := c2 5; have y0 : w1.cell? ⟨w.heap.size + 1, 0, none⟩ = some (.int .i64 0) := c3 0; clear c2 c3)
 exact ⟨.tuple #[.agg (Qr.encQ Qr.t0).toArray, .int .i64 3], (by simp [results, Tryz.results54, go_sem, x0, x1, x2, x3, x4, x5, y0]), Qr.t0, rfl, Qr.q0_c _ _, (Tx.put6 (hB.trans (hb1.mono hB.size)) (Nat.le_refl _) _ _ _ _ _ _).setCell (show w.heap.size ≤ w.heap.size + 1 by omega) _⟩
theorem Tx.own_blt {w : World} {B e size n m c : Nat} {ta : Option Addr} {xs : List Value} (h : w.ownsRow B e size (.slice ta n c) m xs) : ∀ ad, ta = some ad → ad.block < w.heap.size := by
 intro ad had
 rcases h.2 with ⟨e1, _⟩ | ⟨g, cap, cur, e1, _, hg, _⟩
 ·injection e1 with e1
  rw [e1] at had
  cases had
 ·injection e1 with e1
  rw [e1] at had
  injection had with had
  rw [← had]
  exact (Array.getElem?_eq_some_iff.1 hg).1
theorem Qr.tokF_ok {s : ByteArray} (hl : ¬ 1000 < s.size) (hv : Tx.valid s.data.toList = true) : Qr.TokOk (Qr.tokens s.data.toList) ∧ (Qr.tokens s.data.toList).length ≤ 1000 := by
 have h := Qr.toks_ok s.data.toList.length false s.data.toList (Nat.le_refl _) (by rw [← Lib.size_eq]; omega) hv
 rw [← Lib.size_eq] at h
 unfold Qr.tokens Qr.tokF
 rw [← Lib.size_eq]
 exact ⟨h.1, by omega⟩
theorem Qr.parse_none {s : List UInt8} (hl : ¬ 1000 < s.length) (hv : Tx.valid s = true) (hx : Qr.pOr true (8 * (Qr.tokens s).length + 8) (Qr.tokens s) = none) : Qr.parse s = (Qr.q0, 3) := by
 unfold Qr.parse
 rw [if_neg hl, if_neg (by simp [hv]), hx]
theorem Qr.parse_rest {s : List UInt8} {q : Qr.Qy} {t : Qr.Tok} {r : List Qr.Tok} (hl : ¬ 1000 < s.length) (hv : Tx.valid s = true) (hx : Qr.pOr true (8 * (Qr.tokens s).length + 8) (Qr.tokens s) = some (q, t :: r)) : Qr.parse s = (Qr.q0, 3) := by
 unfold Qr.parse
 rw [if_neg hl, if_neg (by simp [hv]), hx]
theorem Qr.parse_end {s : List UInt8} {q : Qr.Qy} (hl : ¬ 1000 < s.length) (hv : Tx.valid s = true) (hx : Qr.pOr true (8 * (Qr.tokens s).length + 8) (Qr.tokens s) = some (q, [])) : Qr.parse s = if Qr.rightE q = 0 then (q, 0) else (Qr.q0, Qr.rightE q) := by
 unfold Qr.parse
 rw [if_neg hl, if_neg (by simp [hv]), hx]
set_option maxHeartbeats 3200000 in
theorem Parse_3 (s : ByteArray) (w : World) (hl : ¬ 1000 < s.size) (hv : Tx.valid s.data.toList = true) (hG : G w) (hx : Qr.pOr true (8 * (Qr.tokens s.data.toList).length + 8) (Qr.tokens s.data.toList) = none) :
  Calls Tryz.prog 54 #[.string s] w fun e w' => ∃ t, e = .returned (.tuple #[.agg (Qr.encQ t).toArray, .int .i64 (Qr.parse s.data.toList).2]) ∧ Qr.QC w.heap.size w' (Qr.parse s.data.toList).1 (Qr.encQ t) ∧ Below w.heap.size w w' := by
 have hok := Qr.tokF_ok hl hv
 have hl' : ¬ 1000 < s.data.toList.length := by rw [← Lib.size_eq]; exact hl
 have g1 : ¬ (1000 : Int) < (s.size : Int) := by omega
 rw [Qr.parse_none hl' hv hx]
 have HV := Lib.hid hv; clear hv
 obtain ⟨l, hL⟩ : ∃ l, Qr.tokens s.data.toList = l := ⟨_, rfl⟩
 rw [hL] at hx hok
 have HL := Lib.hid hL; clear hL
 have HX := Lib.hid hx; clear hx
 have hll := hok.2
 have HOK := Lib.hid hok.1; clear hok hl'
 have hmf : ∀ (fn : Fn) (first cap : Array Value) (w : World), (Instr.makeFunc fn first cap).run Tryz.prog w = .ok (.func fn first cap) w := fun _ _ _ _ => rfl
 obtain ⟨W, hW⟩ : ∃ W, W = (w.alloc (.cells Qr.zeroQ 29)).alloc (.cells #[.int .i64 0] 44) := ⟨_, rfl⟩
 have hB : Below w.heap.size w W := by rw [hW]; exact ((Tx.newb w _).trans ((Tx.newb _ _).mono (by simp)))
 have k2 : W.heap[w.heap.size]? = some (.cells Qr.zeroQ 29 (0, 0)) := by rw [hW]; exact Tx.blk_later (heap_alloc_new w _) (Tx.newb _ _)
 have k3 : W.heap[w.heap.size + 1]? = some (.cells #[.int .i64 0] 44 (0, 0)) := by rw [hW]; simpa using heap_alloc_new (w.alloc (.cells Qr.zeroQ 29)) (.cells #[.int .i64 0] 44)
 have hWs : W.heap.size = w.heap.size + 2 := by rw [hW]; simp
 have K2 := Lib.hid k2
 have K3 := Lib.hid k3
 have hW' := hW.symm
 clear hW k2 k3
 go_enter_defers Tryz.func54, Tryz.ntmps54
 go_wp2_with (first
  | (go_at_call 117; refine ((readers w2.heap.size l (by omega) (8 * l.length + 8)).1 (8 * l.length + 8) l _ (Nat.le_refl _) (by omega) hPS).mono ?_; rintro e w4 hh; rw [HX.out] at hh; obtain ⟨rfl, hF4⟩ := hh.bad; have s4 := hF4.size; have D2 := (hF4.block w.heap.size (by omega) (by omega)).trans I2.out; have D3 := (hF4.block (w.heap.size + 1) (by omega) (by omega)).trans I3.out; obtain ⟨c2, f2, l2⟩ := Tx.blk D2; obtain ⟨c3, f3, l3⟩ := Tx.blk D3; have x0 : w4.cell? ⟨w.heap.size, 0, none⟩ = some (.int .i64 0) := c2 0; have x1 : w4.cell? ⟨w.heap.size, 1, none⟩ = some (.int .i64 0) := c2 1; have x2 : w4.cell? ⟨w.heap.size, 2, none⟩ = some (.slice none 0 0) := c2 2; have x3 : w4.cell? ⟨w.heap.size, 3, none⟩ = some (.int .i64 0) := c2 3; have x4 : w4.cell? ⟨w.heap.size, 4, none⟩ = some (.int .i64 0) := c2 4; have x5 : w4.cell? ⟨w.heap.size, 5, none⟩ = some (.slice none 0 0) := c2 5; have y0 : w4.cell? ⟨w.heap.size + 1, 0, none⟩ = some (.int .i64 0) := c3 0; have hb04 : Below w.heap.size w w4 := hb03.trans ((hF4.below (Nat.le_refl _) (by omega)).mono (by omega)))
  | (go_at_call 116; refine (tokens_c s w1 (by omega)).mono ?_; rintro e w2 ⟨v, rfl, hown, hb2⟩; rw [HL.out] at hown; obtain ⟨ta, tc, rfl, hFA, hlow⟩ := Br.FA.of_own (enc := Qr.encT) (size := 3) (fun _ => rfl) hown rfl; have hin : ∀ ad, ta = some ad → ad.block < w2.heap.size := Tx.own_blt hown; clear hown hlow; have s2 := hb2.size; have I2 := Lib.hid (Tx.blk_later (Tx.blk_later J2.out hb2) (Tx.newb w2 (.cells #[.slice ta l.length tc, .int .i64 0] 129))); have I3 := Lib.hid (Tx.blk_later (Tx.blk_later J3.out hb2) (Tx.newb w2 (.cells #[.slice ta l.length tc, .int .i64 0] 129))); have hb02 : Below w.heap.size w w2 := (hB.trans (hb1.mono hB.size)).trans (hb2.mono (by omega)); have hPS : Qr.PS w2.heap.size l l (w2.alloc (.cells #[.slice ta l.length tc, .int .i64 0] 129)) := ⟨List.suffix_refl _, by omega, HOK.out, ⟨w, hG, by omega, hb02.alloc (by omega) _⟩, ta, tc, by rw [Nat.sub_self]; exact heap_alloc_new _ _, hFA.below (Tx.newb w2 _), hin⟩; have hb03 : Below w.heap.size w (w2.alloc (.cells #[.slice ta l.length tc, .int .i64 0] 129)) := hb02.alloc (by omega) _; have s3 : (w2.alloc (.cells #[.slice ta l.length tc, .int .i64 0] 129)).heap.size = w2.heap.size + 1 := (by simp))
  | (go_at_call 114; refine (text_Valid_c s W (by omega) (hG.below hB)).mono ?_; rintro e w1 ⟨rfl, hb1⟩; rw [HV.out]; have J2 := Lib.hid (Tx.blk_later K2.out hb1); have J3 := Lib.hid (Tx.blk_later K3.out hb1); have s1 := hb1.size))
 refine leaves_cons (f := 115) (args := #[.pointer (some ⟨w.heap.size, 0, none⟩), .pointer (some ⟨w.heap.size + 1, 0, none⟩)]) (by simp) (by simp [go_sem]) ?_
 refine (catch_panic w.heap.size (w.heap.size + 1) _ _ _ _ _ _ _ _ _ [] _ x0 x1 x2 x3 x4 x5 y0 f2 f3 (by omega)).mono ?_
 rintro e u' w'' ⟨rfl, rfl, rfl⟩
 exact ⟨.tuple #[.agg (Qr.encQ Qr.t0).toArray, .int .i64 3], (by simp [results, Tryz.results54, go_sem, x0, x1, x2, x3, x4, x5, y0]), Qr.t0, rfl, Qr.q0_c _ _, (Tx.put6 hb04 (Nat.le_refl _) _ _ _ _ _ _).setCell (show w.heap.size ≤ w.heap.size + 1 by omega) _⟩
set_option maxHeartbeats 3200000 in
theorem Parse_4 (s : ByteArray) (w : World) (hl : ¬ 1000 < s.size) (hv : Tx.valid s.data.toList = true) (hG : G w) (q : Qr.Qy) (r' : List Qr.Tok) (hx : Qr.pOr true (8 * (Qr.tokens s.data.toList).length + 8) (Qr.tokens s.data.toList) = some (q, r')) (hr : r' ≠ []) :
  Calls Tryz.prog 54 #[.string s] w fun e w' => ∃ t, e = .returned (.tuple #[.agg (Qr.encQ t).toArray, .int .i64 (Qr.parse s.data.toList).2]) ∧ Qr.QC w.heap.size w' (Qr.parse s.data.toList).1 (Qr.encQ t) ∧ Below w.heap.size w w' := by
 have hok := Qr.tokF_ok hl hv
 have hl' : ¬ 1000 < s.data.toList.length := by rw [← Lib.size_eq]; exact hl
 have g1 : ¬ (1000 : Int) < (s.size : Int) := by omega
 have hpe : Qr.parse s.data.toList = (Qr.q0, 3) := by
  cases r' with
  | nil => exact absurd rfl hr
  | cons t r2 => exact Qr.parse_rest hl' hv hx
 rw [hpe]
 clear hpe
 have HV := Lib.hid hv; clear hv
 obtain ⟨l, hL⟩ : ∃ l, Qr.tokens s.data.toList = l := ⟨_, rfl⟩
 rw [hL] at hx hok
 have HL := Lib.hid hL; clear hL
 obtain ⟨A, hA⟩ : ∃ A, l.length - r'.length = A := ⟨_, rfl⟩
 have hes := ((Qr.eats_all true (8 * l.length + 8)).1 l q r' hx).1.length_le
 have HA := Lib.hid hA
 have HX := Lib.hid hx; clear hx
 have hll := hok.2
 have HOK := Lib.hid hok.1; clear hok hl'
 have hmf : ∀ (fn : Fn) (first cap : Array Value) (w : World), (Instr.makeFunc fn first cap).run Tryz.prog w = .ok (.func fn first cap) w := fun _ _ _ _ => rfl
 obtain ⟨W, hW⟩ : ∃ W, W = (w.alloc (.cells Qr.zeroQ 29)).alloc (.cells #[.int .i64 0] 44) := ⟨_, rfl⟩
 have hB : Below w.heap.size w W := by rw [hW]; exact ((Tx.newb w _).trans ((Tx.newb _ _).mono (by simp)))
 have k2 : W.heap[w.heap.size]? = some (.cells Qr.zeroQ 29 (0, 0)) := by rw [hW]; exact Tx.blk_later (heap_alloc_new w _) (Tx.newb _ _)
 have k3 : W.heap[w.heap.size + 1]? = some (.cells #[.int .i64 0] 44 (0, 0)) := by rw [hW]; simpa using heap_alloc_new (w.alloc (.cells Qr.zeroQ 29)) (.cells #[.int .i64 0] 44)
 have hWs : W.heap.size = w.heap.size + 2 := by rw [hW]; simp
 have K2 := Lib.hid k2
 have K3 := Lib.hid k3
 have hW' := hW.symm
 clear hW k2 k3
 have hlt : (A : Int) < (l.length : Int) := by
  have h1 : 1 ≤ r'.length := by cases r' with
   | nil => exact absurd rfl hr
   | cons t r2 => simp
  omega
 clear hr hA
 go_enter_defers Tryz.func54, Tryz.ntmps54
 go_wp2_with (first
  | (go_at_call 117; refine ((readers w2.heap.size l (by omega) (8 * l.length + 8)).1 (8 * l.length + 8) l _ (Nat.le_refl _) (by omega) hPS).mono ?_; rintro e w4 hh; rw [HX.out] at hh; obtain ⟨qo, qf, qa, qb, qsa, qsn, qsc, qka, qkn, qkc, rfl, hq4, hP4, hF4⟩ := hh.get; clear hh; have s4 := hF4.size; have D2 := (hF4.block w.heap.size (by omega) (by omega)).trans I2.out; have D3 := (hF4.block (w.heap.size + 1) (by omega) (by omega)).trans I3.out; have HD2 := Lib.hid D2; have HD3 := Lib.hid D3; obtain ⟨c2, f2, l2⟩ := Tx.blk D2; have x0 : w4.cell? ⟨w.heap.size, 0, none⟩ = some (.int .i64 0) := c2 0; have x1 : w4.cell? ⟨w.heap.size, 1, none⟩ = some (.int .i64 0) := c2 1; have x2 : w4.cell? ⟨w.heap.size, 2, none⟩ = some (.slice none 0 0) := c2 2; have x3 : w4.cell? ⟨w.heap.size, 3, none⟩ = some (.int .i64 0) := c2 3; have x4 : w4.cell? ⟨w.heap.size, 4, none⟩ = some (.int .i64 0) := c2 4; have x5 : w4.cell? ⟨w.heap.size, 5, none⟩ = some (.slice none 0 0) := c2 5; have hb04 : Below w.heap.size w w4 := hb03.trans ((hF4.below (Nat.le_refl _) (by omega)).mono (by omega)); clear D2 D3 c2)
  | (go_at_call 116; refine (tokens_c s w1 (by omega)).mono ?_; rintro e w2 ⟨v, rfl, hown, hb2⟩; rw [HL.out] at hown; obtain ⟨ta, tc, rfl, hFA, hlow⟩ := Br.FA.of_own (enc := Qr.encT) (size := 3) (fun _ => rfl) hown rfl; have hin : ∀ ad, ta = some ad → ad.block < w2.heap.size := Tx.own_blt hown; clear hown hlow; have s2 := hb2.size; have I2 := Lib.hid (Tx.blk_later (Tx.blk_later J2.out hb2) (Tx.newb w2 (.cells #[.slice ta l.length tc, .int .i64 0] 129))); have I3 := Lib.hid (Tx.blk_later (Tx.blk_later J3.out hb2) (Tx.newb w2 (.cells #[.slice ta l.length tc, .int .i64 0] 129))); have hb02 : Below w.heap.size w w2 := (hB.trans (hb1.mono hB.size)).trans (hb2.mono (by omega)); have hPS : Qr.PS w2.heap.size l l (w2.alloc (.cells #[.slice ta l.length tc, .int .i64 0] 129)) := ⟨List.suffix_refl _, by omega, HOK.out, ⟨w, hG, by omega, hb02.alloc (by omega) _⟩, ta, tc, by rw [Nat.sub_self]; exact heap_alloc_new _ _, hFA.below (Tx.newb w2 _), hin⟩; have hb03 : Below w.heap.size w (w2.alloc (.cells #[.slice ta l.length tc, .int .i64 0] 129)) := hb02.alloc (by omega) _; have s3 : (w2.alloc (.cells #[.slice ta l.length tc, .int .i64 0] 129)).heap.size = w2.heap.size + 1 := (by simp))
  | (go_at_call 114; refine (text_Valid_c s W (by omega) (hG.below hB)).mono ?_; rintro e w1 ⟨rfl, hb1⟩; rw [HV.out]; have J2 := Lib.hid (Tx.blk_later K2.out hb1); have J3 := Lib.hid (Tx.blk_later K3.out hb1); have s1 := hb1.size))
 obtain ⟨W5, hW5⟩ : ∃ W5, W5 = ((((((w4.setCell ⟨w.heap.size, 0, none⟩ (.int .i64 qo)).setCell ⟨w.heap.size, 1, none⟩ (.int .i64 qf)).setCell ⟨w.heap.size, 2, none⟩ (.slice qsa qsn qsc)).setCell ⟨w.heap.size, 3, none⟩ (.int .i64 qa)).setCell ⟨w.heap.size, 4, none⟩ (.int .i64 qb)).setCell ⟨w.heap.size, 5, none⟩ (.slice qka qkn qkc)) := ⟨_, rfl⟩
 obtain ⟨ta4, tc4, kg4, _, _⟩ := hP4.blk
 rw [HA.out] at kg4
 have kg5 : W5.heap[w2.heap.size]? = some (.cells #[.slice ta4 l.length tc4, .int .i64 (A : Int)] 129 (0, 0)) := by rw [hW5]; exact Qr.far6 kg4 (show w2.heap.size ≠ w.heap.size by omega) _ _ _ _ _ _
 have kd5 : W5.heap[w.heap.size]? = some (.cells #[.int .i64 qo, .int .i64 qf, .slice qsa qsn qsc, .int .i64 qa, .int .i64 qb, .slice qka qkn qkc] 29 (0, 0)) := by
  rw [hW5]
  exact (by simpa using Tx.blk_set (i := 5) (Tx.blk_set (i := 4) (Tx.blk_set (i := 3) (Tx.blk_set (i := 2) (Tx.blk_set (i := 1) (Tx.blk_set (i := 0) HD2.out (.int .i64 qo)) (.int .i64 qf)) (.slice qsa qsn qsc)) (.int .i64 qa)) (.int .i64 qb)) (.slice qka qkn qkc) : ((((((w4.setCell ⟨w.heap.size, 0, none⟩ (.int .i64 qo)).setCell ⟨w.heap.size, 1, none⟩ (.int .i64 qf)).setCell ⟨w.heap.size, 2, none⟩ (.slice qsa qsn qsc)).setCell ⟨w.heap.size, 3, none⟩ (.int .i64 qa)).setCell ⟨w.heap.size, 4, none⟩ (.int .i64 qb)).setCell ⟨w.heap.size, 5, none⟩ (.slice qka qkn qkc)).heap[w.heap.size]? = some (.cells #[.int .i64 qo, .int .i64 qf, .slice qsa qsn qsc, .int .i64 qa, .int .i64 qb, .slice qka qkn qkc] 29 (0, 0)))
 have ke5 : W5.heap[w.heap.size + 1]? = some (.cells #[.int .i64 0] 44 (0, 0)) := by rw [hW5]; exact Qr.far6 HD3.out (show w.heap.size + 1 ≠ w.heap.size by omega) _ _ _ _ _ _
 have hb05 : Below w.heap.size w W5 := by rw [hW5]; exact Tx.put6 hb04 (Nat.le_refl _) _ _ _ _ _ _
 have hq5 : Qr.QC (w2.heap.size + 1) W5 q [.int .i64 qo, .int .i64 qf, .slice qsa qsn qsc, .int .i64 qa, .int .i64 qb, .slice qka qkn qkc] := by rw [hW5]; exact (hq4.kp (Qr.Kp.put6 (Qr.Kp.refl _ _) (by omega) _ _ _ _ _ _)).mono (by omega)
 rw [← hW5]
 clear hW5 f2 x0 x1 x2 x3 x4 x5
 obtain ⟨gc, gf, _⟩ := Tx.blk kg5
 have gc0 := gc 0
 have gc1 := gc 1
 obtain ⟨dc, df, _⟩ := Tx.blk kd5
 have x0 : W5.cell? ⟨w.heap.size, 0, none⟩ = some (.int .i64 qo) := dc 0; have x1 : W5.cell? ⟨w.heap.size, 1, none⟩ = some (.int .i64 qf) := dc 1; have x2 : W5.cell? ⟨w.heap.size, 2, none⟩ = some (.slice qsa qsn qsc) := dc 2; have x3 : W5.cell? ⟨w.heap.size, 3, none⟩ = some (.int .i64 qa) := dc 3; have x4 : W5.cell? ⟨w.heap.size, 4, none⟩ = some (.int .i64 qb) := dc 4; have x5 : W5.cell? ⟨w.heap.size, 5, none⟩ = some (.slice qka qkn qkc) := dc 5
 obtain ⟨ec, ef, _⟩ := Tx.blk ke5
 have y0 : W5.cell? ⟨w.heap.size + 1, 0, none⟩ = some (.int .i64 0) := ec 0
 clear gc dc ec
 have HE5 := Lib.hid ke5
 have HD5 := Lib.hid kd5
 have HQ5 := Lib.hid hq5
 clear ke5 kd5 kg5 hq5 kg4 hP4
 go_quiet (fail)
 go_wp2
 refine leaves_cons (f := 115) (args := #[.pointer (some ⟨w.heap.size, 0, none⟩), .pointer (some ⟨w.heap.size + 1, 0, none⟩)]) (by simp) (by simp [go_sem]) ?_
 refine (catch_panic w.heap.size (w.heap.size + 1) _ _ _ _ _ _ _ _ _ [] (W5.drewN nq) x0 x1 x2 x3 x4 x5 y0 df ef (by omega)).mono ?_
 rintro e u' w'' ⟨rfl, rfl, rfl⟩
 exact ⟨.tuple #[.agg (Qr.encQ Qr.t0).toArray, .int .i64 3], (by simp [results, Tryz.results54, go_sem, x0, x1, x2, x3, x4, x5, y0]), Qr.t0, rfl, Qr.q0_c _ _, (Tx.put6 (Tx.drawn hb05 _) (Nat.le_refl _) _ _ _ _ _ _).setCell (show w.heap.size ≤ w.heap.size + 1 by omega) _⟩
end Go.Proofs.YtlakomilichhnaaGreatDoor
namespace Go.Proofs.YtlakomilichhnaaGreatDoor
open Go.RowKit
set_option maxRecDepth 100000
set_option maxHeartbeats 3200000 in
theorem Parse_6 (s : ByteArray) (w : World) (hl : ¬ 1000 < s.size) (hv : Tx.valid s.data.toList = true) (hG : G w) (q : Qr.Qy) (hx : Qr.pOr true (8 * (Qr.tokens s.data.toList).length + 8) (Qr.tokens s.data.toList) = some (q, [])) (E : Int) (hE : Qr.rightE q = E) (hE0 : E ≠ 0) :
  Calls Tryz.prog 54 #[.string s] w fun e w' => ∃ t, e = .returned (.tuple #[.agg (Qr.encQ t).toArray, .int .i64 (Qr.parse s.data.toList).2]) ∧ Qr.QC w.heap.size w' (Qr.parse s.data.toList).1 (Qr.encQ t) ∧ Below w.heap.size w w' := by
 have hok := Qr.tokF_ok hl hv
 have hl' : ¬ 1000 < s.data.toList.length := by rw [← Lib.size_eq]; exact hl
 have g1 : ¬ (1000 : Int) < (s.size : Int) := by omega
 rw [Qr.parse_end hl' hv hx, hE, if_neg hE0]
 have HV := Lib.hid hv; clear hv
 obtain ⟨l, hL⟩ : ∃ l, Qr.tokens s.data.toList = l := ⟨_, rfl⟩
 rw [hL] at hx hok
 have HL := Lib.hid hL; clear hL
 obtain ⟨A, hA⟩ : ∃ A, l.length - ([] : List Qr.Tok).length = A := ⟨_, rfl⟩
 have HA := Lib.hid hA
 have hnd := (Qr.nodes_all true (8 * l.length + 8)).1 l q [] hx
 have HND : Hid (Qr.nodes q ≤ 2000) := Lib.hid (by have := hok.2; omega)
 have HWZ := Lib.hid ((Qr.wz_all true (8 * l.length + 8)).1 l hok.1 q [] hx)
 have HX := Lib.hid hx; clear hx hnd
 have hll := hok.2
 have HOK := Lib.hid hok.1; clear hok hl'
 have hmf : ∀ (fn : Fn) (first cap : Array Value) (w : World), (Instr.makeFunc fn first cap).run Tryz.prog w = .ok (.func fn first cap) w := fun _ _ _ _ => rfl
 obtain ⟨W, hW⟩ : ∃ W, W = (w.alloc (.cells Qr.zeroQ 29)).alloc (.cells #[.int .i64 0] 44) := ⟨_, rfl⟩
 have hB : Below w.heap.size w W := by rw [hW]; exact ((Tx.newb w _).trans ((Tx.newb _ _).mono (by simp)))
 have k2 : W.heap[w.heap.size]? = some (.cells Qr.zeroQ 29 (0, 0)) := by rw [hW]; exact Tx.blk_later (heap_alloc_new w _) (Tx.newb _ _)
 have k3 : W.heap[w.heap.size + 1]? = some (.cells #[.int .i64 0] 44 (0, 0)) := by rw [hW]; simpa using heap_alloc_new (w.alloc (.cells Qr.zeroQ 29)) (.cells #[.int .i64 0] 44)
 have hWs : W.heap.size = w.heap.size + 2 := by rw [hW]; simp
 have K2 := Lib.hid k2
 have K3 := Lib.hid k3
 have hW' := hW.symm
 clear hW k2 k3
 have hlt : ¬ (A : Int) < (l.length : Int) := by rw [List.length_nil] at hA; omega
 clear hA
 have HE := Lib.hid hE; clear hE
 have hEb : (E == 0) = false := beq_eq_false_iff_ne.2 hE0
 have hEn : (E != 0) = true := by rw [bne, hEb]; rfl
 go_enter_defers Tryz.func54, Tryz.ntmps54
 go_wp2_with (first
  | (go_at_call 117; refine ((readers w2.heap.size l (by omega) (8 * l.length + 8)).1 (8 * l.length + 8) l _ (Nat.le_refl _) (by omega) hPS).mono ?_; rintro e w4 hh; rw [HX.out] at hh; obtain ⟨qo, qf, qa, qb, qsa, qsn, qsc, qka, qkn, qkc, rfl, hq4, hP4, hF4⟩ := hh.get; clear hh; have s4 := hF4.size; have D2 := (hF4.block w.heap.size (by omega) (by omega)).trans I2.out; have D3 := (hF4.block (w.heap.size + 1) (by omega) (by omega)).trans I3.out; have HD2 := Lib.hid D2; have HD3 := Lib.hid D3; obtain ⟨c2, f2, l2⟩ := Tx.blk D2; have x0 : w4.cell? ⟨w.heap.size, 0, none⟩ = some (.int .i64 0) := c2 0; have x1 : w4.cell? ⟨w.heap.size, 1, none⟩ = some (.int .i64 0) := c2 1; have x2 : w4.cell? ⟨w.heap.size, 2, none⟩ = some (.slice none 0 0) := c2 2; have x3 : w4.cell? ⟨w.heap.size, 3, none⟩ = some (.int .i64 0) := c2 3; have x4 : w4.cell? ⟨w.heap.size, 4, none⟩ = some (.int .i64 0) := c2 4; have x5 : w4.cell? ⟨w.heap.size, 5, none⟩ = some (.slice none 0 0) := c2 5; have hb04 : Below w.heap.size w w4 := hb03.trans ((hF4.below (Nat.le_refl _) (by omega)).mono (by omega)); clear D2 D3 c2)
  | (go_at_call 116; refine (tokens_c s w1 (by omega)).mono ?_; rintro e w2 ⟨v, rfl, hown, hb2⟩; rw [HL.out] at hown; obtain ⟨ta, tc, rfl, hFA, hlow⟩ := Br.FA.of_own (enc := Qr.encT) (size := 3) (fun _ => rfl) hown rfl; have hin : ∀ ad, ta = some ad → ad.block < w2.heap.size := Tx.own_blt hown; clear hown hlow; have s2 := hb2.size; have I2 := Lib.hid (Tx.blk_later (Tx.blk_later J2.out hb2) (Tx.newb w2 (.cells #[.slice ta l.length tc, .int .i64 0] 129))); have I3 := Lib.hid (Tx.blk_later (Tx.blk_later J3.out hb2) (Tx.newb w2 (.cells #[.slice ta l.length tc, .int .i64 0] 129))); have hb02 : Below w.heap.size w w2 := (hB.trans (hb1.mono hB.size)).trans (hb2.mono (by omega)); have hPS : Qr.PS w2.heap.size l l (w2.alloc (.cells #[.slice ta l.length tc, .int .i64 0] 129)) := ⟨List.suffix_refl _, by omega, HOK.out, ⟨w, hG, by omega, hb02.alloc (by omega) _⟩, ta, tc, by rw [Nat.sub_self]; exact heap_alloc_new _ _, hFA.below (Tx.newb w2 _), hin⟩; have hb03 : Below w.heap.size w (w2.alloc (.cells #[.slice ta l.length tc, .int .i64 0] 129)) := hb02.alloc (by omega) _; have s3 : (w2.alloc (.cells #[.slice ta l.length tc, .int .i64 0] 129)).heap.size = w2.heap.size + 1 := (by simp))
  | (go_at_call 114; refine (text_Valid_c s W (by omega) (hG.below hB)).mono ?_; rintro e w1 ⟨rfl, hb1⟩; rw [HV.out]; have J2 := Lib.hid (Tx.blk_later K2.out hb1); have J3 := Lib.hid (Tx.blk_later K3.out hb1); have s1 := hb1.size))
 obtain ⟨W5, hW5⟩ : ∃ W5, W5 = ((((((w4.setCell ⟨w.heap.size, 0, none⟩ (.int .i64 qo)).setCell ⟨w.heap.size, 1, none⟩ (.int .i64 qf)).setCell ⟨w.heap.size, 2, none⟩ (.slice qsa qsn qsc)).setCell ⟨w.heap.size, 3, none⟩ (.int .i64 qa)).setCell ⟨w.heap.size, 4, none⟩ (.int .i64 qb)).setCell ⟨w.heap.size, 5, none⟩ (.slice qka qkn qkc)) := ⟨_, rfl⟩
 obtain ⟨ta4, tc4, kg4, _, _⟩ := hP4.blk
 rw [HA.out] at kg4
 have kg5 : W5.heap[w2.heap.size]? = some (.cells #[.slice ta4 l.length tc4, .int .i64 (A : Int)] 129 (0, 0)) := by rw [hW5]; exact Qr.far6 kg4 (show w2.heap.size ≠ w.heap.size by omega) _ _ _ _ _ _
 have kd5 : W5.heap[w.heap.size]? = some (.cells #[.int .i64 qo, .int .i64 qf, .slice qsa qsn qsc, .int .i64 qa, .int .i64 qb, .slice qka qkn qkc] 29 (0, 0)) := by
  rw [hW5]
  exact (by simpa using Tx.blk_set (i := 5) (Tx.blk_set (i := 4) (Tx.blk_set (i := 3) (Tx.blk_set (i := 2) (Tx.blk_set (i := 1) (Tx.blk_set (i := 0) HD2.out (.int .i64 qo)) (.int .i64 qf)) (.slice qsa qsn qsc)) (.int .i64 qa)) (.int .i64 qb)) (.slice qka qkn qkc) : ((((((w4.setCell ⟨w.heap.size, 0, none⟩ (.int .i64 qo)).setCell ⟨w.heap.size, 1, none⟩ (.int .i64 qf)).setCell ⟨w.heap.size, 2, none⟩ (.slice qsa qsn qsc)).setCell ⟨w.heap.size, 3, none⟩ (.int .i64 qa)).setCell ⟨w.heap.size, 4, none⟩ (.int .i64 qb)).setCell ⟨w.heap.size, 5, none⟩ (.slice qka qkn qkc)).heap[w.heap.size]? = some (.cells #[.int .i64 qo, .int .i64 qf, .slice qsa qsn qsc, .int .i64 qa, .int .i64 qb, .slice qka qkn qkc] 29 (0, 0)))
 have ke5 : W5.heap[w.heap.size + 1]? = some (.cells #[.int .i64 0] 44 (0, 0)) := by rw [hW5]; exact Qr.far6 HD3.out (show w.heap.size + 1 ≠ w.heap.size by omega) _ _ _ _ _ _
 have hb05 : Below w.heap.size w W5 := by rw [hW5]; exact Tx.put6 hb04 (Nat.le_refl _) _ _ _ _ _ _
 have hq5 : Qr.QC (w2.heap.size + 1) W5 q [.int .i64 qo, .int .i64 qf, .slice qsa qsn qsc, .int .i64 qa, .int .i64 qb, .slice qka qkn qkc] := by rw [hW5]; exact (hq4.kp (Qr.Kp.put6 (Qr.Kp.refl _ _) (by omega) _ _ _ _ _ _)).mono (by omega)
 rw [← hW5]
 clear hW5 f2 x0 x1 x2 x3 x4 x5
 obtain ⟨gc, gf, _⟩ := Tx.blk kg5
 have gc0 := gc 0
 have gc1 := gc 1
 obtain ⟨dc, df, _⟩ := Tx.blk kd5
 have x0 : W5.cell? ⟨w.heap.size, 0, none⟩ = some (.int .i64 qo) := dc 0; have x1 : W5.cell? ⟨w.heap.size, 1, none⟩ = some (.int .i64 qf) := dc 1; have x2 : W5.cell? ⟨w.heap.size, 2, none⟩ = some (.slice qsa qsn qsc) := dc 2; have x3 : W5.cell? ⟨w.heap.size, 3, none⟩ = some (.int .i64 qa) := dc 3; have x4 : W5.cell? ⟨w.heap.size, 4, none⟩ = some (.int .i64 qb) := dc 4; have x5 : W5.cell? ⟨w.heap.size, 5, none⟩ = some (.slice qka qkn qkc) := dc 5
 obtain ⟨ec, ef, _⟩ := Tx.blk ke5
 have y0 : W5.cell? ⟨w.heap.size + 1, 0, none⟩ = some (.int .i64 0) := ec 0
 clear gc dc ec
 have HE5 := Lib.hid ke5
 have HD5 := Lib.hid kd5
 have HQ5 := Lib.hid hq5
 clear ke5 kd5 kg5 hq5 kg4 hP4
 go_quiet (fail)
 have HQ5D : Hid (Qr.QC (w2.heap.size + 1) (W5.drewN nq) q [.int .i64 qo, .int .i64 qf, .slice qsa qsn qsc, .int .i64 qa, .int .i64 qb, .slice qka qkn qkc]) := Lib.hid (HQ5.out.later (Tx.drawn (Below.refl _ _) nq))
 have HG5 : Hid (G (W5.drewN nq)) := Lib.hid (hG.below (Tx.drawn hb05 nq))
 go_wp2_with fail
 refine (Right_c (w2.heap.size + 1) q _ (W5.drewN nq) HQ5D.out HWZ.out (by have := HND.out; omega) HG5.out).mono ?_
 rintro e w6 ⟨rfl, hb6⟩
 rw [HE.out]
 have s6 : W5.heap.size ≤ w6.heap.size := hb6.size
 have hb06 : Below w.heap.size w w6 := (Tx.drawn hb05 nq).trans (hb6.mono hb05.size)
 have KD6 := Lib.hid (Tx.blk_later (show (W5.drewN nq).heap[w.heap.size]? = _ from HD5.out) hb6)
 have KE6 := Lib.hid (Tx.blk_later (show (W5.drewN nq).heap[w.heap.size + 1]? = _ from HE5.out) hb6)
 have hq6 := HQ5D.out.later hb6
 have HQ6 := Lib.hid hq6
 clear hq6
 obtain ⟨ec6, ef6, _⟩ := Tx.blk KE6.out
 have y6 : w6.cell? ⟨w.heap.size + 1, 0, none⟩ = some (.int .i64 0) := ec6 0
 clear ec6
 go_wp2
 obtain ⟨W7, hW7⟩ : ∃ W7, W7 = (w6.setCell ⟨w.heap.size + 1, 0, none⟩ (.int .i64 E)) := ⟨_, rfl⟩
 have kd7 : W7.heap[w.heap.size]? = some (.cells #[.int .i64 qo, .int .i64 qf, .slice qsa qsn qsc, .int .i64 qa, .int .i64 qb, .slice qka qkn qkc] 29 (0, 0)) := by rw [hW7]; exact Tx.blk_far (a := ⟨w.heap.size + 1, 0, none⟩) KD6.out (show w.heap.size ≠ w.heap.size + 1 by omega) _
 have ke7 : W7.heap[w.heap.size + 1]? = some (.cells #[.int .i64 E] 44 (0, 0)) := by
  rw [hW7]
  exact (by simpa using Tx.blk_set (i := 0) KE6.out (.int .i64 E) : (w6.setCell ⟨w.heap.size + 1, 0, none⟩ (.int .i64 E)).heap[w.heap.size + 1]? = some (.cells #[.int .i64 E] 44 (0, 0)))
 have hb07 : Below w.heap.size w W7 := by rw [hW7]; exact hb06.setCell (show w.heap.size ≤ w.heap.size + 1 by omega) _
 have hq7 : Qr.QC (w2.heap.size + 1) W7 q [.int .i64 qo, .int .i64 qf, .slice qsa qsn qsc, .int .i64 qa, .int .i64 qb, .slice qka qkn qkc] := by rw [hW7]; exact HQ6.out.kp ((Qr.Kp.refl _ _).set (show w.heap.size + 1 < w2.heap.size + 1 by omega) _)
 rw [← hW7]
 clear hW7 y6 ef6
 obtain ⟨dc7, df7, _⟩ := Tx.blk kd7
 have u0 : W7.cell? ⟨w.heap.size, 0, none⟩ = some (.int .i64 qo) := dc7 0; have u1 : W7.cell? ⟨w.heap.size, 1, none⟩ = some (.int .i64 qf) := dc7 1; have u2 : W7.cell? ⟨w.heap.size, 2, none⟩ = some (.slice qsa qsn qsc) := dc7 2; have u3 : W7.cell? ⟨w.heap.size, 3, none⟩ = some (.int .i64 qa) := dc7 3; have u4 : W7.cell? ⟨w.heap.size, 4, none⟩ = some (.int .i64 qb) := dc7 4; have u5 : W7.cell? ⟨w.heap.size, 5, none⟩ = some (.slice qka qkn qkc) := dc7 5
 obtain ⟨ec7, ef7, _⟩ := Tx.blk ke7
 have y7 : W7.cell? ⟨w.heap.size + 1, 0, none⟩ = some (.int .i64 E) := ec7 0
 clear dc7 ec7
 have HQ7 := Lib.hid hq7
 have HD7 := Lib.hid kd7
 have HE7 := Lib.hid ke7
 clear hq7 kd7 ke7
 go_region
 go_wp2
 refine leaves_cons (f := 115) (args := #[.pointer (some ⟨w.heap.size, 0, none⟩), .pointer (some ⟨w.heap.size + 1, 0, none⟩)]) (by simp) (by simp [go_sem]) ?_
 refine (catch_idle w.heap.size (w.heap.size + 1) _).mono ?_
 rintro e u' w'' ⟨rfl, rfl, rfl⟩
 exact ⟨.tuple #[.agg (Qr.encQ Qr.t0).toArray, .int .i64 E], (by simp [results, Tryz.results54, go_sem, u0, u1, u2, u3, u4, u5, y7]), Qr.t0, rfl, Qr.q0_c _ _, ((Tx.put6 hb07 (Nat.le_refl _) _ _ _ _ _ _).setCell (show w.heap.size ≤ w.heap.size + 1 by omega) _).drew⟩
set_option maxHeartbeats 3200000 in
theorem Parse_5 (s : ByteArray) (w : World) (hl : ¬ 1000 < s.size) (hv : Tx.valid s.data.toList = true) (hG : G w) (q : Qr.Qy) (hx : Qr.pOr true (8 * (Qr.tokens s.data.toList).length + 8) (Qr.tokens s.data.toList) = some (q, [])) (E : Int) (hE : Qr.rightE q = E) (hE0 : E = 0) :
  Calls Tryz.prog 54 #[.string s] w fun e w' => ∃ t, e = .returned (.tuple #[.agg (Qr.encQ t).toArray, .int .i64 (Qr.parse s.data.toList).2]) ∧ Qr.QC w.heap.size w' (Qr.parse s.data.toList).1 (Qr.encQ t) ∧ Below w.heap.size w w' := by
 have hok := Qr.tokF_ok hl hv
 have hl' : ¬ 1000 < s.data.toList.length := by rw [← Lib.size_eq]; exact hl
 have g1 : ¬ (1000 : Int) < (s.size : Int) := by omega
 rw [Qr.parse_end hl' hv hx, hE, if_pos hE0]
 have HV := Lib.hid hv; clear hv
 obtain ⟨l, hL⟩ : ∃ l, Qr.tokens s.data.toList = l := ⟨_, rfl⟩
 rw [hL] at hx hok
 have HL := Lib.hid hL; clear hL
 obtain ⟨A, hA⟩ : ∃ A, l.length - ([] : List Qr.Tok).length = A := ⟨_, rfl⟩
 have HA := Lib.hid hA
 have hnd := (Qr.nodes_all true (8 * l.length + 8)).1 l q [] hx
 have HND : Hid (Qr.nodes q ≤ 2000) := Lib.hid (by have := hok.2; omega)
 have HWZ := Lib.hid ((Qr.wz_all true (8 * l.length + 8)).1 l hok.1 q [] hx)
 have HX := Lib.hid hx; clear hx hnd
 have hll := hok.2
 have HOK := Lib.hid hok.1; clear hok hl'
 have hmf : ∀ (fn : Fn) (first cap : Array Value) (w : World), (Instr.makeFunc fn first cap).run Tryz.prog w = .ok (.func fn first cap) w := fun _ _ _ _ => rfl
 obtain ⟨W, hW⟩ : ∃ W, W = (w.alloc (.cells Qr.zeroQ 29)).alloc (.cells #[.int .i64 0] 44) := ⟨_, rfl⟩
 have hB : Below w.heap.size w W := by rw [hW]; exact ((Tx.newb w _).trans ((Tx.newb _ _).mono (by simp)))
 have k2 : W.heap[w.heap.size]? = some (.cells Qr.zeroQ 29 (0, 0)) := by rw [hW]; exact Tx.blk_later (heap_alloc_new w _) (Tx.newb _ _)
 have k3 : W.heap[w.heap.size + 1]? = some (.cells #[.int .i64 0] 44 (0, 0)) := by rw [hW]; simpa using heap_alloc_new (w.alloc (.cells Qr.zeroQ 29)) (.cells #[.int .i64 0] 44)
 have hWs : W.heap.size = w.heap.size + 2 := by rw [hW]; simp
 have K2 := Lib.hid k2
 have K3 := Lib.hid k3
 have hW' := hW.symm
 clear hW k2 k3
 have hlt : ¬ (A : Int) < (l.length : Int) := by rw [List.length_nil] at hA; omega
 clear hA
 have HE := Lib.hid hE; clear hE
 subst hE0
 go_enter_defers Tryz.func54, Tryz.ntmps54
 go_wp2_with (first
  | (go_at_call 117; refine ((readers w2.heap.size l (by omega) (8 * l.length + 8)).1 (8 * l.length + 8) l _ (Nat.le_refl _) (by omega) hPS).mono ?_; rintro e w4 hh; rw [HX.out] at hh; obtain ⟨qo, qf, qa, qb, qsa, qsn, qsc, qka, qkn, qkc, rfl, hq4, hP4, hF4⟩ := hh.get; clear hh; have s4 := hF4.size; have D2 := (hF4.block w.heap.size (by omega) (by omega)).trans I2.out; have D3 := (hF4.block (w.heap.size + 1) (by omega) (by omega)).trans I3.out; have HD2 := Lib.hid D2; have HD3 := Lib.hid D3; obtain ⟨c2, f2, l2⟩ := Tx.blk D2; have x0 : w4.cell? ⟨w.heap.size, 0, none⟩ = some (.int .i64 0) := c2 0; have x1 : w4.cell? ⟨w.heap.size, 1, none⟩ = some (.int .i64 0) := c2 1; have x2 : w4.cell? ⟨w.heap.size, 2, none⟩ = some (.slice none 0 0) := c2 2; have x3 : w4.cell? ⟨w.heap.size, 3, none⟩ = some (.int .i64 0) := c2 3; have x4 : w4.cell? ⟨w.heap.size, 4, none⟩ = some (.int .i64 0) := c2 4; have x5 : w4.cell? ⟨w.heap.size, 5, none⟩ = some (.slice none 0 0) := c2 5; have hb04 : Below w.heap.size w w4 := hb03.trans ((hF4.below (Nat.le_refl _) (by omega)).mono (by omega)); clear D2 D3 c2)
  | (go_at_call 116; refine (tokens_c s w1 (by omega)).mono ?_; rintro e w2 ⟨v, rfl, hown, hb2⟩; rw [HL.out] at hown; obtain ⟨ta, tc, rfl, hFA, hlow⟩ := Br.FA.of_own (enc := Qr.encT) (size := 3) (fun _ => rfl) hown rfl; have hin : ∀ ad, ta = some ad → ad.block < w2.heap.size := Tx.own_blt hown; clear hown hlow; have s2 := hb2.size; have I2 := Lib.hid (Tx.blk_later (Tx.blk_later J2.out hb2) (Tx.newb w2 (.cells #[.slice ta l.length tc, .int .i64 0] 129))); have I3 := Lib.hid (Tx.blk_later (Tx.blk_later J3.out hb2) (Tx.newb w2 (.cells #[.slice ta l.length tc, .int .i64 0] 129))); have hb02 : Below w.heap.size w w2 := (hB.trans (hb1.mono hB.size)).trans (hb2.mono (by omega)); have hPS : Qr.PS w2.heap.size l l (w2.alloc (.cells #[.slice ta l.length tc, .int .i64 0] 129)) := ⟨List.suffix_refl _, by omega, HOK.out, ⟨w, hG, by omega, hb02.alloc (by omega) _⟩, ta, tc, by rw [Nat.sub_self]; exact heap_alloc_new _ _, hFA.below (Tx.newb w2 _), hin⟩; have hb03 : Below w.heap.size w (w2.alloc (.cells #[.slice ta l.length tc, .int .i64 0] 129)) := hb02.alloc (by omega) _; have s3 : (w2.alloc (.cells #[.slice ta l.length tc, .int .i64 0] 129)).heap.size = w2.heap.size + 1 := (by simp))
  | (go_at_call 114; refine (text_Valid_c s W (by omega) (hG.below hB)).mono ?_; rintro e w1 ⟨rfl, hb1⟩; rw [HV.out]; have J2 := Lib.hid (Tx.blk_later K2.out hb1); have J3 := Lib.hid (Tx.blk_later K3.out hb1); have s1 := hb1.size))
 obtain ⟨W5, hW5⟩ : ∃ W5, W5 = ((((((w4.setCell ⟨w.heap.size, 0, none⟩ (.int .i64 qo)).setCell ⟨w.heap.size, 1, none⟩ (.int .i64 qf)).setCell ⟨w.heap.size, 2, none⟩ (.slice qsa qsn qsc)).setCell ⟨w.heap.size, 3, none⟩ (.int .i64 qa)).setCell ⟨w.heap.size, 4, none⟩ (.int .i64 qb)).setCell ⟨w.heap.size, 5, none⟩ (.slice qka qkn qkc)) := ⟨_, rfl⟩
 obtain ⟨ta4, tc4, kg4, _, _⟩ := hP4.blk
 rw [HA.out] at kg4
 have kg5 : W5.heap[w2.heap.size]? = some (.cells #[.slice ta4 l.length tc4, .int .i64 (A : Int)] 129 (0, 0)) := by rw [hW5]; exact Qr.far6 kg4 (show w2.heap.size ≠ w.heap.size by omega) _ _ _ _ _ _
 have kd5 : W5.heap[w.heap.size]? = some (.cells #[.int .i64 qo, .int .i64 qf, .slice qsa qsn qsc, .int .i64 qa, .int .i64 qb, .slice qka qkn qkc] 29 (0, 0)) := by
  rw [hW5]
  exact (by simpa using Tx.blk_set (i := 5) (Tx.blk_set (i := 4) (Tx.blk_set (i := 3) (Tx.blk_set (i := 2) (Tx.blk_set (i := 1) (Tx.blk_set (i := 0) HD2.out (.int .i64 qo)) (.int .i64 qf)) (.slice qsa qsn qsc)) (.int .i64 qa)) (.int .i64 qb)) (.slice qka qkn qkc) : ((((((w4.setCell ⟨w.heap.size, 0, none⟩ (.int .i64 qo)).setCell ⟨w.heap.size, 1, none⟩ (.int .i64 qf)).setCell ⟨w.heap.size, 2, none⟩ (.slice qsa qsn qsc)).setCell ⟨w.heap.size, 3, none⟩ (.int .i64 qa)).setCell ⟨w.heap.size, 4, none⟩ (.int .i64 qb)).setCell ⟨w.heap.size, 5, none⟩ (.slice qka qkn qkc)).heap[w.heap.size]? = some (.cells #[.int .i64 qo, .int .i64 qf, .slice qsa qsn qsc, .int .i64 qa, .int .i64 qb, .slice qka qkn qkc] 29 (0, 0)))
 have ke5 : W5.heap[w.heap.size + 1]? = some (.cells #[.int .i64 0] 44 (0, 0)) := by rw [hW5]; exact Qr.far6 HD3.out (show w.heap.size + 1 ≠ w.heap.size by omega) _ _ _ _ _ _
 have hb05 : Below w.heap.size w W5 := by rw [hW5]; exact Tx.put6 hb04 (Nat.le_refl _) _ _ _ _ _ _
 have hq5 : Qr.QC (w2.heap.size + 1) W5 q [.int .i64 qo, .int .i64 qf, .slice qsa qsn qsc, .int .i64 qa, .int .i64 qb, .slice qka qkn qkc] := by rw [hW5]; exact (hq4.kp (Qr.Kp.put6 (Qr.Kp.refl _ _) (by omega) _ _ _ _ _ _)).mono (by omega)
 rw [← hW5]
 clear hW5 f2 x0 x1 x2 x3 x4 x5
 obtain ⟨gc, gf, _⟩ := Tx.blk kg5
 have gc0 := gc 0
 have gc1 := gc 1
 obtain ⟨dc, df, _⟩ := Tx.blk kd5
 have x0 : W5.cell? ⟨w.heap.size, 0, none⟩ = some (.int .i64 qo) := dc 0; have x1 : W5.cell? ⟨w.heap.size, 1, none⟩ = some (.int .i64 qf) := dc 1; have x2 : W5.cell? ⟨w.heap.size, 2, none⟩ = some (.slice qsa qsn qsc) := dc 2; have x3 : W5.cell? ⟨w.heap.size, 3, none⟩ = some (.int .i64 qa) := dc 3; have x4 : W5.cell? ⟨w.heap.size, 4, none⟩ = some (.int .i64 qb) := dc 4; have x5 : W5.cell? ⟨w.heap.size, 5, none⟩ = some (.slice qka qkn qkc) := dc 5
 obtain ⟨ec, ef, _⟩ := Tx.blk ke5
 have y0 : W5.cell? ⟨w.heap.size + 1, 0, none⟩ = some (.int .i64 0) := ec 0
 clear gc dc ec
 have HE5 := Lib.hid ke5
 have HD5 := Lib.hid kd5
 have HQ5 := Lib.hid hq5
 clear ke5 kd5 kg5 hq5 kg4 hP4
 go_quiet (fail)
 have HQ5D : Hid (Qr.QC (w2.heap.size + 1) (W5.drewN nq) q [.int .i64 qo, .int .i64 qf, .slice qsa qsn qsc, .int .i64 qa, .int .i64 qb, .slice qka qkn qkc]) := Lib.hid (HQ5.out.later (Tx.drawn (Below.refl _ _) nq))
 have HG5 : Hid (G (W5.drewN nq)) := Lib.hid (hG.below (Tx.drawn hb05 nq))
 go_wp2_with fail
 refine (Right_c (w2.heap.size + 1) q _ (W5.drewN nq) HQ5D.out HWZ.out (by have := HND.out; omega) HG5.out).mono ?_
 rintro e w6 ⟨rfl, hb6⟩
 rw [HE.out]
 have s6 : W5.heap.size ≤ w6.heap.size := hb6.size
 have hb06 : Below w.heap.size w w6 := (Tx.drawn hb05 nq).trans (hb6.mono hb05.size)
 have KD6 := Lib.hid (Tx.blk_later (show (W5.drewN nq).heap[w.heap.size]? = _ from HD5.out) hb6)
 have KE6 := Lib.hid (Tx.blk_later (show (W5.drewN nq).heap[w.heap.size + 1]? = _ from HE5.out) hb6)
 have hq6 := HQ5D.out.later hb6
 have HQ6 := Lib.hid hq6
 clear hq6
 obtain ⟨ec6, ef6, _⟩ := Tx.blk KE6.out
 have y6 : w6.cell? ⟨w.heap.size + 1, 0, none⟩ = some (.int .i64 0) := ec6 0
 clear ec6
 obtain ⟨dc6, df6, _⟩ := Tx.blk KD6.out
 clear dc6
 have u0 : ∀ v, (w6.setCell ⟨w.heap.size + 1, 0, none⟩ v).cell? ⟨w.heap.size, 0, none⟩ = some (.int .i64 qo) := (fun v => (Tx.blk (Tx.blk_far (a := ⟨w.heap.size + 1, 0, none⟩) KD6.out (show w.heap.size ≠ w.heap.size + 1 by omega) v)).1 0); have u1 : ∀ v, (w6.setCell ⟨w.heap.size + 1, 0, none⟩ v).cell? ⟨w.heap.size, 1, none⟩ = some (.int .i64 qf) := (fun v => (Tx.blk (Tx.blk_far (a := ⟨w.heap.size + 1, 0, none⟩) KD6.out (show w.heap.size ≠ w.heap.size + 1 by omega) v)).1 1); have u2 : ∀ v, (w6.setCell ⟨w.heap.size + 1, 0, none⟩ v).cell? ⟨w.heap.size, 2, none⟩ = some (.slice qsa qsn qsc) := (fun v => (Tx.blk (Tx.blk_far (a := ⟨w.heap.size + 1, 0, none⟩) KD6.out (show w.heap.size ≠ w.heap.size + 1 by omega) v)).1 2); have u3 : ∀ v, (w6.setCell ⟨w.heap.size + 1, 0, none⟩ v).cell? ⟨w.heap.size, 3, none⟩ = some (.int .i64 qa) := (fun v => (Tx.blk (Tx.blk_far (a := ⟨w.heap.size + 1, 0, none⟩) KD6.out (show w.heap.size ≠ w.heap.size + 1 by omega) v)).1 3); have u4 : ∀ v, (w6.setCell ⟨w.heap.size + 1, 0, none⟩ v).cell? ⟨w.heap.size, 4, none⟩ = some (.int .i64 qb) := (fun v => (Tx.blk (Tx.blk_far (a := ⟨w.heap.size + 1, 0, none⟩) KD6.out (show w.heap.size ≠ w.heap.size + 1 by omega) v)).1 4); have u5 : ∀ v, (w6.setCell ⟨w.heap.size + 1, 0, none⟩ v).cell? ⟨w.heap.size, 5, none⟩ = some (.slice qka qkn qkc) := (fun v => (Tx.blk (Tx.blk_far (a := ⟨w.heap.size + 1, 0, none⟩) KD6.out (show w.heap.size ≠ w.heap.size + 1 by omega) v)).1 5)
 go_wp2
 refine leaves_cons (f := 115) (args := #[.pointer (some ⟨w.heap.size, 0, none⟩), .pointer (some ⟨w.heap.size + 1, 0, none⟩)]) (by simp) (by simp [go_sem]) ?_
 refine (catch_idle w.heap.size (w.heap.size + 1) _).mono ?_
 rintro e u' w'' ⟨rfl, rfl, rfl⟩
 exact ⟨.tuple #[.agg #[.int .i64 qo, .int .i64 qf, .slice qsa qsn qsc, .int .i64 qa, .int .i64 qb, .slice qka qkn qkc], .int .i64 0], (by simp [results, Tryz.results54, go_sem, u0, u1, u2, u3, u4, u5, y6]), ⟨qo, qf, qsa, qsn, qsc, qa, qb, qka, qkn, qkc⟩, rfl, (HQ6.out.kp ((Qr.Kp.put6 ((Qr.Kp.refl _ _).set (show w.heap.size + 1 < w2.heap.size + 1 by omega) _) (by omega) _ _ _ _ _ _).set (show w.heap.size + 1 < w2.heap.size + 1 by omega) _)).mono (by omega), (Tx.put6 (hb06.setCell (show w.heap.size ≤ w.heap.size + 1 by omega) _) (Nat.le_refl _) _ _ _ _ _ _).setCell (show w.heap.size ≤ w.heap.size + 1 by omega) _⟩
theorem Parse_c (s : ByteArray) (w : World) (hG : G w) :
  Calls Tryz.prog 54 #[.string s] w fun e w' => ∃ t, e = .returned (.tuple #[.agg (Qr.encQ t).toArray, .int .i64 (Qr.parse s.data.toList).2]) ∧ Qr.QC w.heap.size w' (Qr.parse s.data.toList).1 (Qr.encQ t) ∧ Below w.heap.size w w' := by
 by_cases hl : 1000 < s.size
 ·exact Parse_1 s w hl
 ·cases hv : Tx.valid s.data.toList with
  | false => exact Parse_2 s w hl hv hG
  | true =>
   cases hx : Qr.pOr true (8 * (Qr.tokens s.data.toList).length + 8) (Qr.tokens s.data.toList) with
   | none => exact Parse_3 s w hl hv hG hx
   | some p =>
    obtain ⟨q, r'⟩ := p
    by_cases hr : r' = []
    ·subst hr
     by_cases hE : Qr.rightE q = 0
     ·exact Parse_5 s w hl hv hG q hx _ rfl hE
     ·exact Parse_6 s w hl hv hG q hx _ rfl hE
    ·exact Parse_4 s w hl hv hG q r' hx hr
end Go.Proofs.YtlakomilichhnaaGreatDoor
