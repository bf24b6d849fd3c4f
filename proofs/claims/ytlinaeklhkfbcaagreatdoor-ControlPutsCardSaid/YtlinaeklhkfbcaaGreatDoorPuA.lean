/- The program's Put: what the call returns. -/
import Derived.Test.YtlinaeklhkfbcaaGreatDoorPuP
import Derived.Test.YtlinaeklhkfbcaaGreatDoorHgM
import Derived.Test.YtlinaeklhkfbcaaGreatDoorKnC
import Derived.Deep.RegionHeld3
namespace Go.Proofs.YtlinaeklhkfbcaaGreatDoor
open Go.RowKit
set_option maxRecDepth 100000

theorem Ct.StdW.below {w w' : World} (h : Ct.StdW w) (hb : Below w.heap.size w w') : Ct.StdW w' := Br.FA.below h hb
theorem Rc.SubA.set {w : World} {a : Option Addr} {c : Nat} {xs : List (UInt8 × ByteArray)} (h : Rc.SubA w a c xs) {b i : Nat} {v : Value} (hne : ∀ g, a = some g → g.block ≠ b) : Rc.SubA (w.setCell ⟨b, i, none⟩ v) a c xs := by
  by_cases h0 : xs = []
  · subst h0
    exact ⟨h.cap, h.max, 0, 0, fun h9 => absurd rfl h9, fun j x hx => by simp at hx⟩
  · obtain ⟨b', o, h1, h2⟩ := h.at_
    obtain ⟨ha, hb⟩ := h1 h0
    have hn := hne _ ha
    refine ⟨h.cap, h.max, b', o, fun _ => ⟨ha, by simpa using hb⟩, fun j x hx => ⟨?_, ?_⟩⟩
    · rw [World.cell?_setCell_far _ _ _ _ (fun e => hn e.symm)]; exact (h2 j x hx).1
    · rw [World.cell?_setCell_far _ _ _ _ (fun e => hn e.symm)]; exact (h2 j x hx).2

set_option maxHeartbeats 6400000 in
theorem control_Put_c (f : Rc.Fl) (a : Option Addr) (c : Nat) (h : ByteArray) (w : World) (hG : G w) (hS : Ct.StdW w) (hA : Rc.SubA w a c f.subs) (hl : f.subs.length ≤ 1000) (hs : h.size ≤ 1000) (hv : Tx.valid h.data.toList = true) :
    Calls Tryz.prog 11 #[.agg #[.string f.tag, .string f.ind, .slice a f.subs.length c, .int .i64 f.auth], .string h] w fun e w' => ∃ va vc, e = .returned (.agg #[.string f.tag, .string f.ind, .slice va (Ct.putF f h.data.toList).subs.length vc, .int .i64 f.auth]) ∧ Rc.SubA w' va vc (Ct.putF f h.data.toList).subs ∧ Below w.heap.size w w' ∧ (Ct.kindOf f.tag.data.toList ≠ 0 → ∀ q, va = some q → w.heap.size ≤ q.block) := by
  obtain ⟨i0, hi0, hz0, hz1, hz2⟩ := info_parts info_sub
  obtain ⟨W, hW⟩ : ∃ W, (w.alloc (.cells #[.string f.tag, .string f.ind, .slice a f.subs.length c, .int .i64 f.auth] 24)).alloc (.cells #[.string ⟨#[]⟩, .string ⟨#[]⟩, .slice none 0 0, .int .i64 0] 24) = W := ⟨_, rfl⟩
  have hB : Below w.heap.size w W := by rw [← hW]; exact (Tx.newb _ _).alloc (Tx.newb w _).size _
  have hWs : W.heap.size = w.heap.size + 2 := by rw [← hW]; simp
  have kr : W.heap[w.heap.size + 1]? = some (.cells #[.string ⟨#[]⟩, .string ⟨#[]⟩, .slice none 0 0, .int .i64 0] 24 (0, 0)) := by
    rw [← hW]
    have := heap_alloc_new (w.alloc (.cells #[.string f.tag, .string f.ind, .slice a f.subs.length c, .int .i64 f.auth] 24)) (.cells #[.string ⟨#[]⟩, .string ⟨#[]⟩, .slice none 0 0, .int .i64 0] 24)
    simpa using this
  have kb : W.heap[w.heap.size]? = some (.cells #[.string f.tag, .string f.ind, .slice a f.subs.length c, .int .i64 f.auth] 24 (0, 0)) := by
    rw [← hW, Below.heap_alloc _ _ _ (by simp)]
    exact heap_alloc_new w _
  have HW := Lib.hid hW; clear hW
  have hSW := hS.below hB
  have hGW := hG.below hB
  have hAW := hA.below hB
  have hcap := hA.cap
  have hmax := hA.max
  have hml : maxLen = 9223372036854775807 := rfl
  have HV := Lib.hid hv; clear hv
  have HWs := Lib.hid hWs
  have hWs2 : w.heap.size + 2 ≤ W.heap.size := by omega
  clear hWs
  obtain ⟨K, hK⟩ : ∃ K, Ct.kindOf f.tag.data.toList = K := ⟨_, rfl⟩
  have hKr := Ct.kind_range f.tag.data.toList
  rw [hK] at hKr
  have HK := Lib.hid hK; clear hK
  rcases (show K = 0 ∨ K = 1 ∨ (K = 2 ∨ K = 4) ∨ K = 3 by omega) with rfl | rfl | hK2 | rfl
  · have HP : Hid (Ct.putF f h.data.toList = f) := Lib.hid (Ct.putF_0 HK.out)
    go_enter Tryz.func11, Tryz.ntmps11
    go_wp2_with (go_at_call 25; rw [HW.out]; refine (control_Kind_c f.tag W hSW).mono ?_; rintro e w1 ⟨rfl, hb1⟩; rw [HK.out]; obtain ⟨bc1, bf1, bl1⟩ := Tx.blk (Tx.blk_later kb hb1); obtain ⟨rc1, rf1, rl1⟩ := Tx.blk (Tx.blk_later kr hb1))
    refine bodyPost_ret (v := .agg #[.string f.tag, .string f.ind, .slice a f.subs.length c, .int .i64 f.auth]) (by simp [results, Tryz.results11, go_sem, rc1]) rfl ⟨a, c, by rw [HP.out], ?_, ?_, fun h9 => absurd HK.out h9⟩
    · rw [HP.out]
      have h1 : ∀ g, a = some g → g.block ≠ w.heap.size + 1 ∨ f.subs = [] := fun g hg => by
        by_cases h0 : f.subs = []
        · exact .inr h0
        · obtain ⟨b', o, h1, _⟩ := hA.at_
          obtain ⟨ha, hb⟩ := h1 h0
          rw [hg] at ha
          injection ha with ha
          subst ha
          exact .inl (by show b' ≠ _; omega)
      have h2 := hAW.below hb1
      by_cases h0 : f.subs = []
      · rw [h0]
        exact ⟨by simp, hmax, 0, 0, fun h9 => absurd rfl h9, fun j x hx => by simp at hx⟩
      · have h3 : ∀ g, a = some g → g.block ≠ w.heap.size + 1 := fun g hg => (h1 g hg).resolve_right h0
        exact (((h2.set h3).set h3).set h3).set h3
    · exact Tx.set4 (Tx.step hB hb1) (Nat.le_succ _) _ _ _ _
  · cases hn : Ct.name h.data.toList with
    | none =>
      obtain ⟨L0, hL0⟩ : ∃ L0 : List (UInt8 × ByteArray), [(97, h)] = L0 := ⟨_, rfl⟩
      have HL0 : Hid (Ct.mkS (Ct.headSubs 1 h.data.toList) = L0) := Lib.hid (by rw [Ct.heads_none hn, ← hL0]; rfl)
      have HN := Lib.hid hn; clear hn
      go_enter Tryz.func11, Tryz.ntmps11
      go_wp2_with (first
        | (go_at_call 25; rw [HW.out]; refine (control_Kind_c f.tag W hSW).mono ?_; rintro e w1 ⟨rfl, hb1⟩; rw [HK.out]; obtain ⟨bc1, bf1, bl1⟩ := Tx.blk (Tx.blk_later kb hb1); obtain ⟨rc1, rf1, rl1⟩ := Tx.blk (Tx.blk_later kr hb1))
        | (go_at_call 30; refine (heading_Name_c h _ (by omega) HV.out (hGW.below hb1)).mono ?_; rintro e w2 ⟨rfl, hb2⟩; rw [HN.out]; rw [show Ct.nmV none = .agg #[.string ⟨#[]⟩, .string ⟨#[]⟩, .string ⟨#[]⟩] from rfl, show Ct.nmE none = 3 from rfl]; have hb12 := Tx.step hb1 hb2; obtain ⟨bc2, bf2, bl2⟩ := Tx.blk (Tx.blk_later kb hb12)))
      obtain ⟨cd, hcd⟩ : ∃ cd : ByteArray, cd = ⟨#[97, 100]⟩ := ⟨_, rfl⟩
      rw [← hcd]
      have HC : Hid (cd.data.toList = Ct.headCodes 1) := Lib.hid (by rw [hcd]; rfl)
      clear hcd
      have hown5 : ((w2.alloc (.cells #[.string ⟨#[]⟩, .string ⟨#[]⟩, .string ⟨#[]⟩] 60)).alloc (.cells #[.int .u8 97, .string h] 48)).ownsRow W.heap.size 48 2 (.slice (some ⟨(w2.alloc (.cells #[.string ⟨#[]⟩, .string ⟨#[]⟩, .string ⟨#[]⟩] 60)).heap.size, 0, none⟩) 1 1) L0.length (L0.flatMap Rc.encS) := by
        rw [← hL0]
        exact World.ownsRow_lit (base := W.heap.size) (e := 48) (size := 2) (w2.alloc (.cells #[.string ⟨#[]⟩, .string ⟨#[]⟩, .string ⟨#[]⟩] 60)) #[.int .u8 97, .string h] 1 (by have := hb12.size; simp; omega) (by unfold maxLen; omega) rfl
      have hb5 : Below W.heap.size W ((w2.alloc (.cells #[.string ⟨#[]⟩, .string ⟨#[]⟩, .string ⟨#[]⟩] 60)).alloc (.cells #[.int .u8 97, .string h] 48)) := ((hb12.alloc hb12.size _).alloc (by have := hb12.size; simp; omega) _)
      have hL0l : L0.length ≤ 2 := by rw [← hL0]; simp
      have kbX := kb
      have krX := kr
      have hAX := hAW
      have hBX := hB
      rw [show (w2.alloc (.cells #[.string ⟨#[]⟩, .string ⟨#[]⟩, .string ⟨#[]⟩] 60)).heap.size = w2.heap.size + 1 from by simp] at hown5
      clear hKr
      go_loopw [5, 81] (fun v i wr => ∃ (k : Nat) (L : List (UInt8 × ByteArray)), k ≤ f.subs.length ∧ i = .int .i64 k ∧ Hid (L = L0 ++ (f.subs.take k).filter (Ct.keepC 1)) ∧ L.length ≤ L0.length + k ∧ wr.ownsRow W.heap.size 48 2 v L.length (L.flatMap Rc.encS) ∧ Below W.heap.size W wr) (fun _ i _ => f.subs.length - (intOf i).toNat)
      case atStart => exact ⟨0, L0, Nat.zero_le _, rfl, Lib.hid (by simp), Nat.le_refl _, hown5, hb5⟩
      case round =>
        obtain ⟨k, L, hk, rfl, hL, hLk, hown, hb⟩ := hrel
        have hbs := hb.size
        by_cases hlt : k < f.subs.length
        · obtain ⟨x, hx⟩ : ∃ x, f.subs[k]? = some x := ⟨_, List.getElem?_eq_getElem hlt⟩
          obtain ⟨b, o, rfl, hbl, c0, c1⟩ := hAX.get hx
          replace c0 := cell_later hb c0
          replace c1 := cell_later hb c1
          have hft := Ct.filt_take (Ct.keepC 1) hx
          have hix := Rc.indexByte_mem cd.data.toList x.1
          have hkc : Ct.keepC 1 x = !(cd.data.toList.contains x.1) := by rw [HC.out]; rfl
          by_cases hm : x.1 ∈ cd.data.toList
          · have hge := hix.2 hm
            have hkf : Ct.keepC 1 x = false := by rw [hkc]; simp [hm]
            rw [hkf, if_neg (by decide), List.append_nil] at hft
            have HF := Lib.hid hft
            clear hft hix hkc hm hkf hx
            go_wp2_with (go_at_call 32; refine (Tryz.strings_IndexByte cd x.1.toNat _).mono ?_; rintro e w1 ⟨rfl, rfl⟩)
            go_roundw
            case rel => exact ⟨k + 1, L, by omega, by go_num, Lib.hid (by rw [HF.out]; exact hL.out), by omega, hown.alloc _, hb.alloc hbs _⟩
            case measure => simp [intOf]; omega
          · have hge : Lib.indexByte cd.data.toList x.1 < 0 := by
              have h9 : ¬ 0 ≤ Lib.indexByte cd.data.toList x.1 := fun h8 => hm (hix.1 h8)
              omega
            have hkt : Ct.keepC 1 x = true := by rw [hkc]; simp [hm]
            rw [hkt, if_pos rfl] at hft
            have HF := Lib.hid hft
            clear hft hix hkc hm hkt hx
            go_wp2_with (first
              | (go_at_call 32; refine (Tryz.strings_IndexByte cd x.1.toNat _).mono ?_; rintro e w1 ⟨rfl, rfl⟩)
              | (at_builtin; go_must (refine wpList_append_own _ rfl _ _ 22 rfl W.heap.size 48 i0 _ 2 24 Tryz.underlying22 hi0 hz0 hz1 hz2 rfl (by decide) _ L.length _ rfl ((hown.alloc _).alloc _) ⟨_, 0, none⟩ 1 1 (Rc.encS x) rfl rfl (Br.cells_new_at _ _ (by first | rfl | simp) #[.int .u8 x.1.toNat, .string x.2] _) (Rc.encS_one x) (by unfold maxLen; omega) (by omega) (by simp; omega) ?_); intro v' w2' hown2 hg2 hnil2))
            have hb2 : Below W.heap.size W w2' := ((hb.alloc hbs _).alloc (by simp; omega) _).grown hg2 (by simp; omega) (fun j hj => (hown.lt j hj).1)
            go_roundw
            case rel => exact ⟨k + 1, L ++ [x], by omega, by go_num, Lib.hid (by rw [HF.out, ← List.append_assoc, ← hL.out]), by simp; omega, by simpa using hown2, hb2⟩
            case measure => simp [intOf]; omega
        · obtain rfl : k = f.subs.length := by omega
          have hL2 := hL.out
          rw [List.take_length] at hL2
          have HP : Hid ((Ct.putF f h.data.toList).subs = L) := Lib.hid (by rw [Ct.putF_subs HK.out (by decide), hL2, ← HL0.out])
          clear hL hL2
          obtain ⟨va, vc, rfl, hF, hge⟩ := Br.FA.of_own Rc.encS_len hown rfl
          have hSub := Rc.SubA.of_fa hF
          obtain ⟨bc, bf, bl⟩ := Tx.blk (Tx.blk_later kbX hb)
          obtain ⟨rc, rf, rl⟩ := Tx.blk (Tx.blk_later krX hb)
          have hne0 : ∀ g, va = some g → g.block ≠ w.heap.size := fun g hg h9 => by have := hge g hg; omega
          have hne1 : ∀ g, va = some g → g.block ≠ w.heap.size + 1 := fun g hg h9 => by have := hge g hg; omega
          have HNE0 := Lib.hid hne0
          have HNE1 := Lib.hid hne1
          have HGE : Hid (∀ q, va = some q → w.heap.size ≤ q.block) := Lib.hid (fun q hq => Nat.le_trans hBX.size (hge q hq))
          have hBw := Below.trans hBX (hb.mono hBX.size)
          clear hne0 hne1 hge
          go_wp2
          refine bodyPost_ret (v := .agg #[.string f.tag, .string f.ind, .slice va L.length vc, .int .i64 f.auth]) (by simp [results, Tryz.results11, go_sem, rc]) rfl ⟨va, vc, by rw [HP.out], ?_, ?_, fun _ => HGE.out⟩
          · rw [HP.out]
            exact ((((hSub.set HNE0.out).set HNE1.out).set HNE1.out).set HNE1.out).set HNE1.out
          · exact Tx.set4 (hBw.setCell (Nat.le_refl _) _) (Nat.le_succ _) _ _ _ _
    | some t =>
      obtain ⟨l, f1, d⟩ := t
      have hnl := Ct.name_len hn
      rw [← Lib.size_eq] at hnl
      obtain ⟨lb, rfl⟩ : ∃ lb : ByteArray, lb.data.toList = l := ⟨⟨l.toArray⟩, rfl⟩
      obtain ⟨fb, rfl⟩ : ∃ fb : ByteArray, fb.data.toList = f1 := ⟨⟨f1.toArray⟩, rfl⟩
      obtain ⟨db, rfl⟩ : ∃ db : ByteArray, db.data.toList = d := ⟨⟨d.toArray⟩, rfl⟩
      rw [← Lib.size_eq, ← Lib.size_eq, ← Lib.size_eq] at hnl
      obtain ⟨hn1, hn2, hn3⟩ := hnl
      by_cases hd : db.data.toList = []
      · obtain ⟨L0, hL0⟩ : ∃ L0 : List (UInt8 × ByteArray), [(97, h)] = L0 := ⟨_, rfl⟩
        have HL0 : Hid (Ct.mkS (Ct.headSubs 1 h.data.toList) = L0) := Lib.hid (by rw [Ct.heads_nodate hn hd, ← hL0]; rfl)
        have hde : db.toList.isEmpty = true := by rw [Lib.toList_data, hd]; rfl
        have HN := Lib.hid hn; clear hn hd
        go_enter Tryz.func11, Tryz.ntmps11
        go_wp2_with (first
          | (go_at_call 25; rw [HW.out]; refine (control_Kind_c f.tag W hSW).mono ?_; rintro e w1 ⟨rfl, hb1⟩; rw [HK.out]; obtain ⟨bc1, bf1, bl1⟩ := Tx.blk (Tx.blk_later kb hb1); obtain ⟨rc1, rf1, rl1⟩ := Tx.blk (Tx.blk_later kr hb1))
          | (go_at_call 30; refine (heading_Name_c h _ (by omega) HV.out (hGW.below hb1)).mono ?_; rintro e w2 ⟨rfl, hb2⟩; rw [HN.out]; rw [Ct.nm_some, show Ct.nmE (some (lb.data.toList, fb.data.toList, db.data.toList)) = 0 from rfl]; have hb12 := Tx.step hb1 hb2; obtain ⟨bc2, bf2, bl2⟩ := Tx.blk (Tx.blk_later kb hb12)))
        obtain ⟨cd, hcd⟩ : ∃ cd : ByteArray, cd = ⟨#[97, 100]⟩ := ⟨_, rfl⟩
        rw [← hcd]
        have HC : Hid (cd.data.toList = Ct.headCodes 1) := Lib.hid (by rw [hcd]; rfl)
        clear hcd
        have hown5 : ((w2.alloc (.cells #[.string lb, .string fb, .string db] 60)).alloc (.cells #[.int .u8 97, .string h] 48)).ownsRow W.heap.size 48 2 (.slice (some ⟨(w2.alloc (.cells #[.string lb, .string fb, .string db] 60)).heap.size, 0, none⟩) 1 1) L0.length (L0.flatMap Rc.encS) := by
          rw [← hL0]
          exact World.ownsRow_lit (base := W.heap.size) (e := 48) (size := 2) (w2.alloc (.cells #[.string lb, .string fb, .string db] 60)) #[.int .u8 97, .string h] 1 (by have := hb12.size; simp; omega) (by unfold maxLen; omega) rfl
        have hb5 : Below W.heap.size W ((w2.alloc (.cells #[.string lb, .string fb, .string db] 60)).alloc (.cells #[.int .u8 97, .string h] 48)) := ((hb12.alloc hb12.size _).alloc (by have := hb12.size; simp; omega) _)
        have hL0l : L0.length ≤ 2 := by rw [← hL0]; simp
        have kbX := kb
        have krX := kr
        have hAX := hAW
        have hBX := hB
        rw [show (w2.alloc (.cells #[.string lb, .string fb, .string db] 60)).heap.size = w2.heap.size + 1 from by simp] at hown5
        clear hKr
        go_loopw [5, 81] (fun v i wr => ∃ (k : Nat) (L : List (UInt8 × ByteArray)), k ≤ f.subs.length ∧ i = .int .i64 k ∧ Hid (L = L0 ++ (f.subs.take k).filter (Ct.keepC 1)) ∧ L.length ≤ L0.length + k ∧ wr.ownsRow W.heap.size 48 2 v L.length (L.flatMap Rc.encS) ∧ Below W.heap.size W wr) (fun _ i _ => f.subs.length - (intOf i).toNat)
        case atStart => exact ⟨0, L0, Nat.zero_le _, rfl, Lib.hid (by simp), Nat.le_refl _, hown5, hb5⟩
        case round =>
          obtain ⟨k, L, hk, rfl, hL, hLk, hown, hb⟩ := hrel
          have hbs := hb.size
          by_cases hlt : k < f.subs.length
          · obtain ⟨x, hx⟩ : ∃ x, f.subs[k]? = some x := ⟨_, List.getElem?_eq_getElem hlt⟩
            obtain ⟨b, o, rfl, hbl, c0, c1⟩ := hAX.get hx
            replace c0 := cell_later hb c0
            replace c1 := cell_later hb c1
            have hft := Ct.filt_take (Ct.keepC 1) hx
            have hix := Rc.indexByte_mem cd.data.toList x.1
            have hkc : Ct.keepC 1 x = !(cd.data.toList.contains x.1) := by rw [HC.out]; rfl
            by_cases hm : x.1 ∈ cd.data.toList
            · have hge := hix.2 hm
              have hkf : Ct.keepC 1 x = false := by rw [hkc]; simp [hm]
              rw [hkf, if_neg (by decide), List.append_nil] at hft
              have HF := Lib.hid hft
              clear hft hix hkc hm hkf hx
              go_wp2_with (go_at_call 32; refine (Tryz.strings_IndexByte cd x.1.toNat _).mono ?_; rintro e w1 ⟨rfl, rfl⟩)
              go_roundw
              case rel => exact ⟨k + 1, L, by omega, by go_num, Lib.hid (by rw [HF.out]; exact hL.out), by omega, hown.alloc _, hb.alloc hbs _⟩
              case measure => simp [intOf]; omega
            · have hge : Lib.indexByte cd.data.toList x.1 < 0 := by
                have h9 : ¬ 0 ≤ Lib.indexByte cd.data.toList x.1 := fun h8 => hm (hix.1 h8)
                omega
              have hkt : Ct.keepC 1 x = true := by rw [hkc]; simp [hm]
              rw [hkt, if_pos rfl] at hft
              have HF := Lib.hid hft
              clear hft hix hkc hm hkt hx
              go_wp2_with (first
                | (go_at_call 32; refine (Tryz.strings_IndexByte cd x.1.toNat _).mono ?_; rintro e w1 ⟨rfl, rfl⟩)
                | (at_builtin; go_must (refine wpList_append_own _ rfl _ _ 22 rfl W.heap.size 48 i0 _ 2 24 Tryz.underlying22 hi0 hz0 hz1 hz2 rfl (by decide) _ L.length _ rfl ((hown.alloc _).alloc _) ⟨_, 0, none⟩ 1 1 (Rc.encS x) rfl rfl (Br.cells_new_at _ _ (by first | rfl | simp) #[.int .u8 x.1.toNat, .string x.2] _) (Rc.encS_one x) (by unfold maxLen; omega) (by omega) (by simp; omega) ?_); intro v' w2' hown2 hg2 hnil2))
              have hb2 : Below W.heap.size W w2' := ((hb.alloc hbs _).alloc (by simp; omega) _).grown hg2 (by simp; omega) (fun j hj => (hown.lt j hj).1)
              go_roundw
              case rel => exact ⟨k + 1, L ++ [x], by omega, by go_num, Lib.hid (by rw [HF.out, ← List.append_assoc, ← hL.out]), by simp; omega, by simpa using hown2, hb2⟩
              case measure => simp [intOf]; omega
          · obtain rfl : k = f.subs.length := by omega
            have hL2 := hL.out
            rw [List.take_length] at hL2
            have HP : Hid ((Ct.putF f h.data.toList).subs = L) := Lib.hid (by rw [Ct.putF_subs HK.out (by decide), hL2, ← HL0.out])
            clear hL hL2
            obtain ⟨va, vc, rfl, hF, hge⟩ := Br.FA.of_own Rc.encS_len hown rfl
            have hSub := Rc.SubA.of_fa hF
            obtain ⟨bc, bf, bl⟩ := Tx.blk (Tx.blk_later kbX hb)
            obtain ⟨rc, rf, rl⟩ := Tx.blk (Tx.blk_later krX hb)
            have hne0 : ∀ g, va = some g → g.block ≠ w.heap.size := fun g hg h9 => by have := hge g hg; omega
            have hne1 : ∀ g, va = some g → g.block ≠ w.heap.size + 1 := fun g hg h9 => by have := hge g hg; omega
            have HNE0 := Lib.hid hne0
            have HNE1 := Lib.hid hne1
            have HGE : Hid (∀ q, va = some q → w.heap.size ≤ q.block) := Lib.hid (fun q hq => Nat.le_trans hBX.size (hge q hq))
            have hBw := Below.trans hBX (hb.mono hBX.size)
            clear hne0 hne1 hge
            go_wp2
            refine bodyPost_ret (v := .agg #[.string f.tag, .string f.ind, .slice va L.length vc, .int .i64 f.auth]) (by simp [results, Tryz.results11, go_sem, rc]) rfl ⟨va, vc, by rw [HP.out], ?_, ?_, fun _ => HGE.out⟩
            · rw [HP.out]
              exact ((((hSub.set HNE0.out).set HNE1.out).set HNE1.out).set HNE1.out).set HNE1.out
            · exact Tx.set4 (hBw.setCell (Nat.le_refl _) _) (Nat.le_succ _) _ _ _ _
      · have hde : db.toList.isEmpty = false := by rw [Lib.toList_data]; simpa using hd
        by_cases hf1 : fb.data.toList = []
        · obtain ⟨L0, hL0⟩ : ∃ L0 : List (UInt8 × ByteArray), [(97, lb), (100, db)] = L0 := ⟨_, rfl⟩
          have HL0 : Hid (Ct.mkS (Ct.headSubs 1 h.data.toList) = L0) := Lib.hid (by rw [Ct.heads_last hn hd hf1, ← hL0]; rfl)
          have hfe : fb.toList.isEmpty = true := by rw [Lib.toList_data, hf1]; rfl
          have HN := Lib.hid hn; clear hn hd hf1
          go_enter Tryz.func11, Tryz.ntmps11
          go_wp2_with (first
            | (go_at_call 25; rw [HW.out]; refine (control_Kind_c f.tag W hSW).mono ?_; rintro e w1 ⟨rfl, hb1⟩; rw [HK.out]; obtain ⟨bc1, bf1, bl1⟩ := Tx.blk (Tx.blk_later kb hb1); obtain ⟨rc1, rf1, rl1⟩ := Tx.blk (Tx.blk_later kr hb1))
            | (go_at_call 30; refine (heading_Name_c h _ (by omega) HV.out (hGW.below hb1)).mono ?_; rintro e w2 ⟨rfl, hb2⟩; rw [HN.out]; rw [Ct.nm_some, show Ct.nmE (some (lb.data.toList, fb.data.toList, db.data.toList)) = 0 from rfl]; have hb12 := Tx.step hb1 hb2; obtain ⟨bc2, bf2, bl2⟩ := Tx.blk (Tx.blk_later kb hb12)))
          obtain ⟨cd, hcd⟩ : ∃ cd : ByteArray, cd = ⟨#[97, 100]⟩ := ⟨_, rfl⟩
          rw [← hcd]
          have HC : Hid (cd.data.toList = Ct.headCodes 1) := Lib.hid (by rw [hcd]; rfl)
          clear hcd
          have hown5 : ((w2.alloc (.cells #[.string lb, .string fb, .string db] 60)).alloc (.cells #[.int .u8 97, .string lb, .int .u8 100, .string db] 48)).ownsRow W.heap.size 48 2 (.slice (some ⟨(w2.alloc (.cells #[.string lb, .string fb, .string db] 60)).heap.size, 0, none⟩) 2 2) L0.length (L0.flatMap Rc.encS) := by
            rw [← hL0]
            exact World.ownsRow_lit (base := W.heap.size) (e := 48) (size := 2) (w2.alloc (.cells #[.string lb, .string fb, .string db] 60)) #[.int .u8 97, .string lb, .int .u8 100, .string db] 2 (by have := hb12.size; simp; omega) (by unfold maxLen; omega) rfl
          have hb5 : Below W.heap.size W ((w2.alloc (.cells #[.string lb, .string fb, .string db] 60)).alloc (.cells #[.int .u8 97, .string lb, .int .u8 100, .string db] 48)) := ((hb12.alloc hb12.size _).alloc (by have := hb12.size; simp; omega) _)
          have hL0l : L0.length ≤ 2 := by rw [← hL0]; simp
          have kbX := kb
          have krX := kr
          have hAX := hAW
          have hBX := hB
          rw [show (w2.alloc (.cells #[.string lb, .string fb, .string db] 60)).heap.size = w2.heap.size + 1 from by simp] at hown5
          clear hKr
          go_loopw [5, 81] (fun v i wr => ∃ (k : Nat) (L : List (UInt8 × ByteArray)), k ≤ f.subs.length ∧ i = .int .i64 k ∧ Hid (L = L0 ++ (f.subs.take k).filter (Ct.keepC 1)) ∧ L.length ≤ L0.length + k ∧ wr.ownsRow W.heap.size 48 2 v L.length (L.flatMap Rc.encS) ∧ Below W.heap.size W wr) (fun _ i _ => f.subs.length - (intOf i).toNat)
          case atStart => exact ⟨0, L0, Nat.zero_le _, rfl, Lib.hid (by simp), Nat.le_refl _, hown5, hb5⟩
          case round =>
            obtain ⟨k, L, hk, rfl, hL, hLk, hown, hb⟩ := hrel
            have hbs := hb.size
            by_cases hlt : k < f.subs.length
            · obtain ⟨x, hx⟩ : ∃ x, f.subs[k]? = some x := ⟨_, List.getElem?_eq_getElem hlt⟩
              obtain ⟨b, o, rfl, hbl, c0, c1⟩ := hAX.get hx
              replace c0 := cell_later hb c0
              replace c1 := cell_later hb c1
              have hft := Ct.filt_take (Ct.keepC 1) hx
              have hix := Rc.indexByte_mem cd.data.toList x.1
              have hkc : Ct.keepC 1 x = !(cd.data.toList.contains x.1) := by rw [HC.out]; rfl
              by_cases hm : x.1 ∈ cd.data.toList
              · have hge := hix.2 hm
                have hkf : Ct.keepC 1 x = false := by rw [hkc]; simp [hm]
                rw [hkf, if_neg (by decide), List.append_nil] at hft
                have HF := Lib.hid hft
                clear hft hix hkc hm hkf hx
                go_wp2_with (go_at_call 32; refine (Tryz.strings_IndexByte cd x.1.toNat _).mono ?_; rintro e w1 ⟨rfl, rfl⟩)
                go_roundw
                case rel => exact ⟨k + 1, L, by omega, by go_num, Lib.hid (by rw [HF.out]; exact hL.out), by omega, hown.alloc _, hb.alloc hbs _⟩
                case measure => simp [intOf]; omega
              · have hge : Lib.indexByte cd.data.toList x.1 < 0 := by
                  have h9 : ¬ 0 ≤ Lib.indexByte cd.data.toList x.1 := fun h8 => hm (hix.1 h8)
                  omega
                have hkt : Ct.keepC 1 x = true := by rw [hkc]; simp [hm]
                rw [hkt, if_pos rfl] at hft
                have HF := Lib.hid hft
                clear hft hix hkc hm hkt hx
                go_wp2_with (first
                  | (go_at_call 32; refine (Tryz.strings_IndexByte cd x.1.toNat _).mono ?_; rintro e w1 ⟨rfl, rfl⟩)
                  | (at_builtin; go_must (refine wpList_append_own _ rfl _ _ 22 rfl W.heap.size 48 i0 _ 2 24 Tryz.underlying22 hi0 hz0 hz1 hz2 rfl (by decide) _ L.length _ rfl ((hown.alloc _).alloc _) ⟨_, 0, none⟩ 1 1 (Rc.encS x) rfl rfl (Br.cells_new_at _ _ (by first | rfl | simp) #[.int .u8 x.1.toNat, .string x.2] _) (Rc.encS_one x) (by unfold maxLen; omega) (by omega) (by simp; omega) ?_); intro v' w2' hown2 hg2 hnil2))
                have hb2 : Below W.heap.size W w2' := ((hb.alloc hbs _).alloc (by simp; omega) _).grown hg2 (by simp; omega) (fun j hj => (hown.lt j hj).1)
                go_roundw
                case rel => exact ⟨k + 1, L ++ [x], by omega, by go_num, Lib.hid (by rw [HF.out, ← List.append_assoc, ← hL.out]), by simp; omega, by simpa using hown2, hb2⟩
                case measure => simp [intOf]; omega
            · obtain rfl : k = f.subs.length := by omega
              have hL2 := hL.out
              rw [List.take_length] at hL2
              have HP : Hid ((Ct.putF f h.data.toList).subs = L) := Lib.hid (by rw [Ct.putF_subs HK.out (by decide), hL2, ← HL0.out])
              clear hL hL2
              obtain ⟨va, vc, rfl, hF, hge⟩ := Br.FA.of_own Rc.encS_len hown rfl
              have hSub := Rc.SubA.of_fa hF
              obtain ⟨bc, bf, bl⟩ := Tx.blk (Tx.blk_later kbX hb)
              obtain ⟨rc, rf, rl⟩ := Tx.blk (Tx.blk_later krX hb)
              have hne0 : ∀ g, va = some g → g.block ≠ w.heap.size := fun g hg h9 => by have := hge g hg; omega
              have hne1 : ∀ g, va = some g → g.block ≠ w.heap.size + 1 := fun g hg h9 => by have := hge g hg; omega
              have HNE0 := Lib.hid hne0
              have HNE1 := Lib.hid hne1
              have HGE : Hid (∀ q, va = some q → w.heap.size ≤ q.block) := Lib.hid (fun q hq => Nat.le_trans hBX.size (hge q hq))
              have hBw := Below.trans hBX (hb.mono hBX.size)
              clear hne0 hne1 hge
              go_wp2
              refine bodyPost_ret (v := .agg #[.string f.tag, .string f.ind, .slice va L.length vc, .int .i64 f.auth]) (by simp [results, Tryz.results11, go_sem, rc]) rfl ⟨va, vc, by rw [HP.out], ?_, ?_, fun _ => HGE.out⟩
              · rw [HP.out]
                exact ((((hSub.set HNE0.out).set HNE1.out).set HNE1.out).set HNE1.out).set HNE1.out
              · exact Tx.set4 (hBw.setCell (Nat.le_refl _) _) (Nat.le_succ _) _ _ _ _
        · obtain ⟨L0, hL0⟩ : ∃ L0 : List (UInt8 × ByteArray), [(97, lb ++ (⟨#[44, 32]⟩ ++ fb)), (100, db)] = L0 := ⟨_, rfl⟩
          have HL0 : Hid (Ct.mkS (Ct.headSubs 1 h.data.toList) = L0) := Lib.hid (by
            have hcc : (⟨(lb.data.toList ++ [44, 32] ++ fb.data.toList).toArray⟩ : ByteArray) = lb ++ (⟨#[44, 32]⟩ ++ fb) := by
              apply ByteArray.ext
              simp
            rw [Ct.heads_first hn hd hf1, ← hL0, ← hcc]
            rfl)
          have hfe : fb.toList.isEmpty = false := by rw [Lib.toList_data]; simpa using hf1
          have HN := Lib.hid hn; clear hn hd hf1
          obtain ⟨a1, -⟩ := Tx.adds_ok Tryz.prog [fb] ⟨#[44, 32]⟩ (by have h2 : (⟨#[44, 32]⟩ : ByteArray).size = 2 := rfl; simp only [List.map_cons, List.map_nil, List.sum_cons, List.sum_nil]; omega)
          obtain ⟨a2, -⟩ := Tx.adds_ok Tryz.prog [⟨#[44, 32]⟩ ++ fb] lb (by have h2 : (⟨#[44, 32]⟩ : ByteArray).size = 2 := rfl; simp only [List.map_cons, List.map_nil, List.sum_cons, List.sum_nil, ByteArray.size_append]; omega)
          go_enter Tryz.func11, Tryz.ntmps11
          go_wp2_with (first
            | (go_at_call 25; rw [HW.out]; refine (control_Kind_c f.tag W hSW).mono ?_; rintro e w1 ⟨rfl, hb1⟩; rw [HK.out]; obtain ⟨bc1, bf1, bl1⟩ := Tx.blk (Tx.blk_later kb hb1); obtain ⟨rc1, rf1, rl1⟩ := Tx.blk (Tx.blk_later kr hb1))
            | (go_at_call 30; refine (heading_Name_c h _ (by omega) HV.out (hGW.below hb1)).mono ?_; rintro e w2 ⟨rfl, hb2⟩; rw [HN.out]; rw [Ct.nm_some, show Ct.nmE (some (lb.data.toList, fb.data.toList, db.data.toList)) = 0 from rfl]; have hb12 := Tx.step hb1 hb2; obtain ⟨bc2, bf2, bl2⟩ := Tx.blk (Tx.blk_later kb hb12)))
          obtain ⟨cd, hcd⟩ : ∃ cd : ByteArray, cd = ⟨#[97, 100]⟩ := ⟨_, rfl⟩
          rw [← hcd]
          have HC : Hid (cd.data.toList = Ct.headCodes 1) := Lib.hid (by rw [hcd]; rfl)
          clear hcd
          have hown5 : ((w2.alloc (.cells #[.string lb, .string fb, .string db] 60)).alloc (.cells #[.int .u8 97, .string (lb ++ (⟨#[44, 32]⟩ ++ fb)), .int .u8 100, .string db] 48)).ownsRow W.heap.size 48 2 (.slice (some ⟨(w2.alloc (.cells #[.string lb, .string fb, .string db] 60)).heap.size, 0, none⟩) 2 2) L0.length (L0.flatMap Rc.encS) := by
            rw [← hL0]
            exact World.ownsRow_lit (base := W.heap.size) (e := 48) (size := 2) (w2.alloc (.cells #[.string lb, .string fb, .string db] 60)) #[.int .u8 97, .string (lb ++ (⟨#[44, 32]⟩ ++ fb)), .int .u8 100, .string db] 2 (by have := hb12.size; simp; omega) (by unfold maxLen; omega) rfl
          have hb5 : Below W.heap.size W ((w2.alloc (.cells #[.string lb, .string fb, .string db] 60)).alloc (.cells #[.int .u8 97, .string (lb ++ (⟨#[44, 32]⟩ ++ fb)), .int .u8 100, .string db] 48)) := ((hb12.alloc hb12.size _).alloc (by have := hb12.size; simp; omega) _)
          have hL0l : L0.length ≤ 2 := by rw [← hL0]; simp
          have kbX := kb
          have krX := kr
          have hAX := hAW
          have hBX := hB
          rw [show (w2.alloc (.cells #[.string lb, .string fb, .string db] 60)).heap.size = w2.heap.size + 1 from by simp] at hown5
          clear hKr
          go_loopw [5, 81] (fun v i wr => ∃ (k : Nat) (L : List (UInt8 × ByteArray)), k ≤ f.subs.length ∧ i = .int .i64 k ∧ Hid (L = L0 ++ (f.subs.take k).filter (Ct.keepC 1)) ∧ L.length ≤ L0.length + k ∧ wr.ownsRow W.heap.size 48 2 v L.length (L.flatMap Rc.encS) ∧ Below W.heap.size W wr) (fun _ i _ => f.subs.length - (intOf i).toNat)
          case atStart => exact ⟨0, L0, Nat.zero_le _, rfl, Lib.hid (by simp), Nat.le_refl _, hown5, hb5⟩
          case round =>
            obtain ⟨k, L, hk, rfl, hL, hLk, hown, hb⟩ := hrel
            have hbs := hb.size
            by_cases hlt : k < f.subs.length
            · obtain ⟨x, hx⟩ : ∃ x, f.subs[k]? = some x := ⟨_, List.getElem?_eq_getElem hlt⟩
              obtain ⟨b, o, rfl, hbl, c0, c1⟩ := hAX.get hx
              replace c0 := cell_later hb c0
              replace c1 := cell_later hb c1
              have hft := Ct.filt_take (Ct.keepC 1) hx
              have hix := Rc.indexByte_mem cd.data.toList x.1
              have hkc : Ct.keepC 1 x = !(cd.data.toList.contains x.1) := by rw [HC.out]; rfl
              by_cases hm : x.1 ∈ cd.data.toList
              · have hge := hix.2 hm
                have hkf : Ct.keepC 1 x = false := by rw [hkc]; simp [hm]
                rw [hkf, if_neg (by decide), List.append_nil] at hft
                have HF := Lib.hid hft
                clear hft hix hkc hm hkf hx
                go_wp2_with (go_at_call 32; refine (Tryz.strings_IndexByte cd x.1.toNat _).mono ?_; rintro e w1 ⟨rfl, rfl⟩)
                go_roundw
                case rel => exact ⟨k + 1, L, by omega, by go_num, Lib.hid (by rw [HF.out]; exact hL.out), by omega, hown.alloc _, hb.alloc hbs _⟩
                case measure => simp [intOf]; omega
              · have hge : Lib.indexByte cd.data.toList x.1 < 0 := by
                  have h9 : ¬ 0 ≤ Lib.indexByte cd.data.toList x.1 := fun h8 => hm (hix.1 h8)
                  omega
                have hkt : Ct.keepC 1 x = true := by rw [hkc]; simp [hm]
                rw [hkt, if_pos rfl] at hft
                have HF := Lib.hid hft
                clear hft hix hkc hm hkt hx
                go_wp2_with (first
                  | (go_at_call 32; refine (Tryz.strings_IndexByte cd x.1.toNat _).mono ?_; rintro e w1 ⟨rfl, rfl⟩)
                  | (at_builtin; go_must (refine wpList_append_own _ rfl _ _ 22 rfl W.heap.size 48 i0 _ 2 24 Tryz.underlying22 hi0 hz0 hz1 hz2 rfl (by decide) _ L.length _ rfl ((hown.alloc _).alloc _) ⟨_, 0, none⟩ 1 1 (Rc.encS x) rfl rfl (Br.cells_new_at _ _ (by first | rfl | simp) #[.int .u8 x.1.toNat, .string x.2] _) (Rc.encS_one x) (by unfold maxLen; omega) (by omega) (by simp; omega) ?_); intro v' w2' hown2 hg2 hnil2))
                have hb2 : Below W.heap.size W w2' := ((hb.alloc hbs _).alloc (by simp; omega) _).grown hg2 (by simp; omega) (fun j hj => (hown.lt j hj).1)
                go_roundw
                case rel => exact ⟨k + 1, L ++ [x], by omega, by go_num, Lib.hid (by rw [HF.out, ← List.append_assoc, ← hL.out]), by simp; omega, by simpa using hown2, hb2⟩
                case measure => simp [intOf]; omega
            · obtain rfl : k = f.subs.length := by omega
              have hL2 := hL.out
              rw [List.take_length] at hL2
              have HP : Hid ((Ct.putF f h.data.toList).subs = L) := Lib.hid (by rw [Ct.putF_subs HK.out (by decide), hL2, ← HL0.out])
              clear hL hL2
              obtain ⟨va, vc, rfl, hF, hge⟩ := Br.FA.of_own Rc.encS_len hown rfl
              have hSub := Rc.SubA.of_fa hF
              obtain ⟨bc, bf, bl⟩ := Tx.blk (Tx.blk_later kbX hb)
              obtain ⟨rc, rf, rl⟩ := Tx.blk (Tx.blk_later krX hb)
              have hne0 : ∀ g, va = some g → g.block ≠ w.heap.size := fun g hg h9 => by have := hge g hg; omega
              have hne1 : ∀ g, va = some g → g.block ≠ w.heap.size + 1 := fun g hg h9 => by have := hge g hg; omega
              have HNE0 := Lib.hid hne0
              have HNE1 := Lib.hid hne1
              have HGE : Hid (∀ q, va = some q → w.heap.size ≤ q.block) := Lib.hid (fun q hq => Nat.le_trans hBX.size (hge q hq))
              have hBw := Below.trans hBX (hb.mono hBX.size)
              clear hne0 hne1 hge
              go_wp2
              refine bodyPost_ret (v := .agg #[.string f.tag, .string f.ind, .slice va L.length vc, .int .i64 f.auth]) (by simp [results, Tryz.results11, go_sem, rc]) rfl ⟨va, vc, by rw [HP.out], ?_, ?_, fun _ => HGE.out⟩
              · rw [HP.out]
                exact ((((hSub.set HNE0.out).set HNE1.out).set HNE1.out).set HNE1.out).set HNE1.out
              · exact Tx.set4 (hBw.setCell (Nat.le_refl _) _) (Nat.le_succ _) _ _ _ _
  · rcases hK2 with rfl | rfl
    · obtain ⟨L0, hL0⟩ : ∃ L0 : List (UInt8 × ByteArray), [(97, h)] = L0 := ⟨_, rfl⟩
      have HL0 : Hid (Ct.mkS (Ct.headSubs 2 h.data.toList) = L0) := Lib.hid (by rw [Ct.heads_o h.data.toList (by decide) (by decide), ← hL0]; rfl)
      go_enter Tryz.func11, Tryz.ntmps11
      go_wp2_with (go_at_call 25; rw [HW.out]; refine (control_Kind_c f.tag W hSW).mono ?_; rintro e w1 ⟨rfl, hb1⟩; rw [HK.out]; obtain ⟨bc1, bf1, bl1⟩ := Tx.blk (Tx.blk_later kb hb1); obtain ⟨rc1, rf1, rl1⟩ := Tx.blk (Tx.blk_later kr hb1))
      have hown5 : (w1.alloc (.cells #[.int .u8 97, .string h] 48)).ownsRow W.heap.size 48 2 (.slice (some ⟨w1.heap.size, 0, none⟩) 1 1) L0.length (L0.flatMap Rc.encS) := by
        rw [← hL0]
        exact World.ownsRow_lit (base := W.heap.size) (e := 48) (size := 2) w1 #[.int .u8 97, .string h] 1 hb1.size (by unfold maxLen; omega) rfl
      have hb5 : Below W.heap.size W (w1.alloc (.cells #[.int .u8 97, .string h] 48)) := hb1.alloc hb1.size _
      have hL0l : L0.length ≤ 2 := by rw [← hL0]; simp
      have kbX := kb
      have krX := kr
      have hAX := hAW
      have hBX := hB
      obtain ⟨cd, hcd⟩ : ∃ cd : ByteArray, cd = ⟨#[97]⟩ := ⟨_, rfl⟩
      rw [← hcd]
      have HC : Hid (cd.data.toList = Ct.headCodes 2) := Lib.hid (by rw [hcd]; rfl)
      clear hcd
      clear hKr
      go_loopw [5, 81] (fun v i wr => ∃ (k : Nat) (L : List (UInt8 × ByteArray)), k ≤ f.subs.length ∧ i = .int .i64 k ∧ Hid (L = L0 ++ (f.subs.take k).filter (Ct.keepC 2)) ∧ L.length ≤ L0.length + k ∧ wr.ownsRow W.heap.size 48 2 v L.length (L.flatMap Rc.encS) ∧ Below W.heap.size W wr) (fun _ i _ => f.subs.length - (intOf i).toNat)
      case atStart => exact ⟨0, L0, Nat.zero_le _, rfl, Lib.hid (by simp), Nat.le_refl _, hown5, hb5⟩
      case round =>
        obtain ⟨k, L, hk, rfl, hL, hLk, hown, hb⟩ := hrel
        have hbs := hb.size
        by_cases hlt : k < f.subs.length
        · obtain ⟨x, hx⟩ : ∃ x, f.subs[k]? = some x := ⟨_, List.getElem?_eq_getElem hlt⟩
          obtain ⟨b, o, rfl, hbl, c0, c1⟩ := hAX.get hx
          replace c0 := cell_later hb c0
          replace c1 := cell_later hb c1
          have hft := Ct.filt_take (Ct.keepC 2) hx
          have hix := Rc.indexByte_mem cd.data.toList x.1
          have hkc : Ct.keepC 2 x = !(cd.data.toList.contains x.1) := by rw [HC.out]; rfl
          by_cases hm : x.1 ∈ cd.data.toList
          · have hge := hix.2 hm
            have hkf : Ct.keepC 2 x = false := by rw [hkc]; simp [hm]
            rw [hkf, if_neg (by decide), List.append_nil] at hft
            have HF := Lib.hid hft
            clear hft hix hkc hm hkf hx
            go_wp2_with (go_at_call 32; refine (Tryz.strings_IndexByte cd x.1.toNat _).mono ?_; rintro e w1 ⟨rfl, rfl⟩)
            go_roundw
            case rel => exact ⟨k + 1, L, by omega, by go_num, Lib.hid (by rw [HF.out]; exact hL.out), by omega, hown.alloc _, hb.alloc hbs _⟩
            case measure => simp [intOf]; omega
          · have hge : Lib.indexByte cd.data.toList x.1 < 0 := by
              have h9 : ¬ 0 ≤ Lib.indexByte cd.data.toList x.1 := fun h8 => hm (hix.1 h8)
              omega
            have hkt : Ct.keepC 2 x = true := by rw [hkc]; simp [hm]
            rw [hkt, if_pos rfl] at hft
            have HF := Lib.hid hft
            clear hft hix hkc hm hkt hx
            go_wp2_with (first
              | (go_at_call 32; refine (Tryz.strings_IndexByte cd x.1.toNat _).mono ?_; rintro e w1 ⟨rfl, rfl⟩)
              | (at_builtin; go_must (refine wpList_append_own _ rfl _ _ 22 rfl W.heap.size 48 i0 _ 2 24 Tryz.underlying22 hi0 hz0 hz1 hz2 rfl (by decide) _ L.length _ rfl ((hown.alloc _).alloc _) ⟨_, 0, none⟩ 1 1 (Rc.encS x) rfl rfl (Br.cells_new_at _ _ (by first | rfl | simp) #[.int .u8 x.1.toNat, .string x.2] _) (Rc.encS_one x) (by unfold maxLen; omega) (by omega) (by simp; omega) ?_); intro v' w2' hown2 hg2 hnil2))
            have hb2 : Below W.heap.size W w2' := ((hb.alloc hbs _).alloc (by simp; omega) _).grown hg2 (by simp; omega) (fun j hj => (hown.lt j hj).1)
            go_roundw
            case rel => exact ⟨k + 1, L ++ [x], by omega, by go_num, Lib.hid (by rw [HF.out, ← List.append_assoc, ← hL.out]), by simp; omega, by simpa using hown2, hb2⟩
            case measure => simp [intOf]; omega
        · obtain rfl : k = f.subs.length := by omega
          have hL2 := hL.out
          rw [List.take_length] at hL2
          have HP : Hid ((Ct.putF f h.data.toList).subs = L) := Lib.hid (by rw [Ct.putF_subs HK.out (by decide), hL2, ← HL0.out])
          clear hL hL2
          obtain ⟨va, vc, rfl, hF, hge⟩ := Br.FA.of_own Rc.encS_len hown rfl
          have hSub := Rc.SubA.of_fa hF
          obtain ⟨bc, bf, bl⟩ := Tx.blk (Tx.blk_later kbX hb)
          obtain ⟨rc, rf, rl⟩ := Tx.blk (Tx.blk_later krX hb)
          have hne0 : ∀ g, va = some g → g.block ≠ w.heap.size := fun g hg h9 => by have := hge g hg; omega
          have hne1 : ∀ g, va = some g → g.block ≠ w.heap.size + 1 := fun g hg h9 => by have := hge g hg; omega
          have HNE0 := Lib.hid hne0
          have HNE1 := Lib.hid hne1
          have HGE : Hid (∀ q, va = some q → w.heap.size ≤ q.block) := Lib.hid (fun q hq => Nat.le_trans hBX.size (hge q hq))
          have hBw := Below.trans hBX (hb.mono hBX.size)
          clear hne0 hne1 hge
          go_wp2
          refine bodyPost_ret (v := .agg #[.string f.tag, .string f.ind, .slice va L.length vc, .int .i64 f.auth]) (by simp [results, Tryz.results11, go_sem, rc]) rfl ⟨va, vc, by rw [HP.out], ?_, ?_, fun _ => HGE.out⟩
          · rw [HP.out]
            exact ((((hSub.set HNE0.out).set HNE1.out).set HNE1.out).set HNE1.out).set HNE1.out
          · exact Tx.set4 (hBw.setCell (Nat.le_refl _) _) (Nat.le_succ _) _ _ _ _
    · obtain ⟨L0, hL0⟩ : ∃ L0 : List (UInt8 × ByteArray), [(97, h)] = L0 := ⟨_, rfl⟩
      have HL0 : Hid (Ct.mkS (Ct.headSubs 4 h.data.toList) = L0) := Lib.hid (by rw [Ct.heads_o h.data.toList (by decide) (by decide), ← hL0]; rfl)
      go_enter Tryz.func11, Tryz.ntmps11
      go_wp2_with (go_at_call 25; rw [HW.out]; refine (control_Kind_c f.tag W hSW).mono ?_; rintro e w1 ⟨rfl, hb1⟩; rw [HK.out]; obtain ⟨bc1, bf1, bl1⟩ := Tx.blk (Tx.blk_later kb hb1); obtain ⟨rc1, rf1, rl1⟩ := Tx.blk (Tx.blk_later kr hb1))
      have hown5 : (w1.alloc (.cells #[.int .u8 97, .string h] 48)).ownsRow W.heap.size 48 2 (.slice (some ⟨w1.heap.size, 0, none⟩) 1 1) L0.length (L0.flatMap Rc.encS) := by
        rw [← hL0]
        exact World.ownsRow_lit (base := W.heap.size) (e := 48) (size := 2) w1 #[.int .u8 97, .string h] 1 hb1.size (by unfold maxLen; omega) rfl
      have hb5 : Below W.heap.size W (w1.alloc (.cells #[.int .u8 97, .string h] 48)) := hb1.alloc hb1.size _
      have hL0l : L0.length ≤ 2 := by rw [← hL0]; simp
      have kbX := kb
      have krX := kr
      have hAX := hAW
      have hBX := hB
      obtain ⟨cd, hcd⟩ : ∃ cd : ByteArray, cd = ⟨#[97]⟩ := ⟨_, rfl⟩
      rw [← hcd]
      have HC : Hid (cd.data.toList = Ct.headCodes 4) := Lib.hid (by rw [hcd]; rfl)
      clear hcd
      clear hKr
      go_loopw [5, 81] (fun v i wr => ∃ (k : Nat) (L : List (UInt8 × ByteArray)), k ≤ f.subs.length ∧ i = .int .i64 k ∧ Hid (L = L0 ++ (f.subs.take k).filter (Ct.keepC 4)) ∧ L.length ≤ L0.length + k ∧ wr.ownsRow W.heap.size 48 2 v L.length (L.flatMap Rc.encS) ∧ Below W.heap.size W wr) (fun _ i _ => f.subs.length - (intOf i).toNat)
      case atStart => exact ⟨0, L0, Nat.zero_le _, rfl, Lib.hid (by simp), Nat.le_refl _, hown5, hb5⟩
      case round =>
        obtain ⟨k, L, hk, rfl, hL, hLk, hown, hb⟩ := hrel
        have hbs := hb.size
        by_cases hlt : k < f.subs.length
        · obtain ⟨x, hx⟩ : ∃ x, f.subs[k]? = some x := ⟨_, List.getElem?_eq_getElem hlt⟩
          obtain ⟨b, o, rfl, hbl, c0, c1⟩ := hAX.get hx
          replace c0 := cell_later hb c0
          replace c1 := cell_later hb c1
          have hft := Ct.filt_take (Ct.keepC 4) hx
          have hix := Rc.indexByte_mem cd.data.toList x.1
          have hkc : Ct.keepC 4 x = !(cd.data.toList.contains x.1) := by rw [HC.out]; rfl
          by_cases hm : x.1 ∈ cd.data.toList
          · have hge := hix.2 hm
            have hkf : Ct.keepC 4 x = false := by rw [hkc]; simp [hm]
            rw [hkf, if_neg (by decide), List.append_nil] at hft
            have HF := Lib.hid hft
            clear hft hix hkc hm hkf hx
            go_wp2_with (go_at_call 32; refine (Tryz.strings_IndexByte cd x.1.toNat _).mono ?_; rintro e w1 ⟨rfl, rfl⟩)
            go_roundw
            case rel => exact ⟨k + 1, L, by omega, by go_num, Lib.hid (by rw [HF.out]; exact hL.out), by omega, hown.alloc _, hb.alloc hbs _⟩
            case measure => simp [intOf]; omega
          · have hge : Lib.indexByte cd.data.toList x.1 < 0 := by
              have h9 : ¬ 0 ≤ Lib.indexByte cd.data.toList x.1 := fun h8 => hm (hix.1 h8)
              omega
            have hkt : Ct.keepC 4 x = true := by rw [hkc]; simp [hm]
            rw [hkt, if_pos rfl] at hft
            have HF := Lib.hid hft
            clear hft hix hkc hm hkt hx
            go_wp2_with (first
              | (go_at_call 32; refine (Tryz.strings_IndexByte cd x.1.toNat _).mono ?_; rintro e w1 ⟨rfl, rfl⟩)
              | (at_builtin; go_must (refine wpList_append_own _ rfl _ _ 22 rfl W.heap.size 48 i0 _ 2 24 Tryz.underlying22 hi0 hz0 hz1 hz2 rfl (by decide) _ L.length _ rfl ((hown.alloc _).alloc _) ⟨_, 0, none⟩ 1 1 (Rc.encS x) rfl rfl (Br.cells_new_at _ _ (by first | rfl | simp) #[.int .u8 x.1.toNat, .string x.2] _) (Rc.encS_one x) (by unfold maxLen; omega) (by omega) (by simp; omega) ?_); intro v' w2' hown2 hg2 hnil2))
            have hb2 : Below W.heap.size W w2' := ((hb.alloc hbs _).alloc (by simp; omega) _).grown hg2 (by simp; omega) (fun j hj => (hown.lt j hj).1)
            go_roundw
            case rel => exact ⟨k + 1, L ++ [x], by omega, by go_num, Lib.hid (by rw [HF.out, ← List.append_assoc, ← hL.out]), by simp; omega, by simpa using hown2, hb2⟩
            case measure => simp [intOf]; omega
        · obtain rfl : k = f.subs.length := by omega
          have hL2 := hL.out
          rw [List.take_length] at hL2
          have HP : Hid ((Ct.putF f h.data.toList).subs = L) := Lib.hid (by rw [Ct.putF_subs HK.out (by decide), hL2, ← HL0.out])
          clear hL hL2
          obtain ⟨va, vc, rfl, hF, hge⟩ := Br.FA.of_own Rc.encS_len hown rfl
          have hSub := Rc.SubA.of_fa hF
          obtain ⟨bc, bf, bl⟩ := Tx.blk (Tx.blk_later kbX hb)
          obtain ⟨rc, rf, rl⟩ := Tx.blk (Tx.blk_later krX hb)
          have hne0 : ∀ g, va = some g → g.block ≠ w.heap.size := fun g hg h9 => by have := hge g hg; omega
          have hne1 : ∀ g, va = some g → g.block ≠ w.heap.size + 1 := fun g hg h9 => by have := hge g hg; omega
          have HNE0 := Lib.hid hne0
          have HNE1 := Lib.hid hne1
          have HGE : Hid (∀ q, va = some q → w.heap.size ≤ q.block) := Lib.hid (fun q hq => Nat.le_trans hBX.size (hge q hq))
          have hBw := Below.trans hBX (hb.mono hBX.size)
          clear hne0 hne1 hge
          go_wp2
          refine bodyPost_ret (v := .agg #[.string f.tag, .string f.ind, .slice va L.length vc, .int .i64 f.auth]) (by simp [results, Tryz.results11, go_sem, rc]) rfl ⟨va, vc, by rw [HP.out], ?_, ?_, fun _ => HGE.out⟩
          · rw [HP.out]
            exact ((((hSub.set HNE0.out).set HNE1.out).set HNE1.out).set HNE1.out).set HNE1.out
          · exact Tx.set4 (hBw.setCell (Nat.le_refl _) _) (Nat.le_succ _) _ _ _ _
  · obtain ⟨L0, hL0⟩ : ∃ L0 : List (UInt8 × ByteArray), Ct.mkS (Ct.headSubs 3 h.data.toList) = L0 := ⟨_, rfl⟩
    have HL0 := Lib.hid hL0
    have HS0 := Lib.hid hs
    go_enter Tryz.func11, Tryz.ntmps11
    go_wp2_with (first
      | (go_at_call 25; rw [HW.out]; refine (control_Kind_c f.tag W hSW).mono ?_; rintro e w1 ⟨rfl, hb1⟩; rw [HK.out]; obtain ⟨bc1, bf1, bl1⟩ := Tx.blk (Tx.blk_later kb hb1); obtain ⟨rc1, rf1, rl1⟩ := Tx.blk (Tx.blk_later kr hb1))
      | (go_at_call 31; refine (heading_Parts_c h _ (by omega) HV.out (hGW.below hb1)).mono ?_; rintro e w2 ⟨pa, pc, ps, rfl, hps, hpA, hb2⟩; have hb12 := Tx.step hb1 hb2; have hpcap := hpA.cap; have hpmax := hpA.max; have HPS := Lib.hid hps; clear hps; have kbX := Tx.blk_later kb hb12; have krX := Tx.blk_later kr hb12; have hAX := hAW.below hb12; have hBX := Tx.step hB hb12; have hb12s := hb12.size; obtain ⟨bc2, bf2, bl2⟩ := Tx.blk kbX))
    have hpl : ps.length ≤ 1001 := by
      have h1 := congrArg List.length HPS.out
      rw [List.length_map] at h1
      have h2 : (Hd.parts h.data.toList).length ≤ (Lib.split h.data.toList [45, 45]).length := by
        unfold Hd.parts
        exact Nat.le_trans (List.length_filter_le _ _) (by rw [List.length_map]; exact Nat.le_refl _)
      have h3 := Hd.split_count (sep := [45, 45]) (by simp) h.data.toList.length h.data.toList (Nat.le_refl _)
      rw [← Lib.size_eq] at h3
      omega
    have hP0 : Hid (Ct.pS true ps = L0) := Lib.hid (by rw [← hL0, Ct.heads_3, ← show ps.map (·.data.toList) = Hd.parts h.data.toList from HPS.out, Ct.pS_mk])
    go_loopw [5, 63] (fun v i wr => ∃ (k : Nat) (L : List (UInt8 × ByteArray)), k ≤ ps.length ∧ i = .int .i64 k ∧ Hid (L = (Ct.pS true ps).take k) ∧ L.length = k ∧ wr.ownsRow w2.heap.size 48 2 v L.length (L.flatMap Rc.encS) ∧ Below w2.heap.size w2 wr) (fun _ i _ => ps.length - (intOf i).toNat)
    case atStart => exact ⟨0, [], Nat.zero_le _, rfl, Lib.hid (by simp), rfl, World.ownsRow_nil _ _ _ _, Below.refl _ _⟩
    case round =>
      obtain ⟨k, L, hk, rfl, hL, hLk, hown, hb⟩ := hrel
      have hbs := hb.size
      by_cases hlt : k < ps.length
      · obtain ⟨x, hx⟩ : ∃ x, ps[k]? = some x := ⟨_, List.getElem?_eq_getElem hlt⟩
        obtain ⟨b, o, rfl, hbl, c0⟩ := hpA.get hx
        replace c0 := cell_later hb c0
        have hft := Ct.pS_take hx
        rw [← hL.out] at hft
        by_cases hk0 : k = 0
        · rw [if_pos hk0] at hft
          have e0 : ((k : Int) == 0) = true := by simp [hk0]
          have HF := Lib.hid hft
          clear hft hx hk0
          go_wp2_with (at_builtin; go_must (refine wpList_append_own _ rfl _ _ 22 rfl w2.heap.size 48 i0 _ 2 24 Tryz.underlying22 hi0 hz0 hz1 hz2 rfl (by decide) _ L.length _ rfl ((hown.alloc _).alloc _) ⟨_, 0, none⟩ 1 1 (Rc.encS (97, x)) rfl rfl (Br.cells_new_at _ _ (by first | rfl | simp) #[.int .u8 97, .string x] _) (Rc.encS_one (97, x)) (by unfold maxLen; omega) (by omega) (by simp; omega) ?_); intro v' w3 hown2 hg2 hnil2)
          have hb2 : Below w2.heap.size w2 w3 := ((hb.alloc hbs _).alloc (by simp; omega) _).grown hg2 (by simp; omega) (fun j hj => (hown.lt j hj).1)
          go_roundw
          case rel => exact ⟨k + 1, L ++ [(97, x)], by omega, by go_num, Lib.hid (by rw [HF.out]), by simp; omega, by simpa using hown2, hb2⟩
          case measure => simp [intOf]; omega
        · rw [if_neg hk0] at hft
          have e0 : ((k : Int) == 0) = false := by simp; omega
          have HF := Lib.hid hft
          clear hft hx hk0
          go_wp2_with (at_builtin; go_must (refine wpList_append_own _ rfl _ _ 22 rfl w2.heap.size 48 i0 _ 2 24 Tryz.underlying22 hi0 hz0 hz1 hz2 rfl (by decide) _ L.length _ rfl ((hown.alloc _).alloc _) ⟨_, 0, none⟩ 1 1 (Rc.encS (120, x)) rfl rfl (Br.cells_new_at _ _ (by first | rfl | simp) #[.int .u8 120, .string x] _) (Rc.encS_one (120, x)) (by unfold maxLen; omega) (by omega) (by simp; omega) ?_); intro v' w3 hown2 hg2 hnil2)
          have hb2 : Below w2.heap.size w2 w3 := ((hb.alloc hbs _).alloc (by simp; omega) _).grown hg2 (by simp; omega) (fun j hj => (hown.lt j hj).1)
          go_roundw
          case rel => exact ⟨k + 1, L ++ [(120, x)], by omega, by go_num, Lib.hid (by rw [HF.out]), by simp; omega, by simpa using hown2, hb2⟩
          case measure => simp [intOf]; omega
      · obtain rfl : k = ps.length := by omega
        have hL2 := hL.out
        rw [List.take_of_length_le (by rw [Ct.pS_len]; exact Nat.le_refl _), hP0.out] at hL2
        have h9 : L0 = L := hL2.symm
        subst h9
        have hown5 := hown
        have hb5 := hb
        have hL0l : L0.length ≤ 1001 := by omega
        obtain ⟨bcr, bfr, blr⟩ := Tx.blk (Tx.blk_later kbX hb)
        generalize wr = wq at *
        clear hL hLk hown hb hP0 hlt hk
        go_wp2
        obtain ⟨cd, hcd⟩ : ∃ cd : ByteArray, cd = ⟨#[97, 120, 121, 122]⟩ := ⟨_, rfl⟩
        rw [← hcd]
        have HC : Hid (cd.data.toList = Ct.headCodes 3) := Lib.hid (by rw [hcd]; rfl)
        clear hcd
        clear hKr
        go_loopw [5, 81] (fun v i wr => ∃ (k : Nat) (L : List (UInt8 × ByteArray)), k ≤ f.subs.length ∧ i = .int .i64 k ∧ Hid (L = L0 ++ (f.subs.take k).filter (Ct.keepC 3)) ∧ L.length ≤ L0.length + k ∧ wr.ownsRow w2.heap.size 48 2 v L.length (L.flatMap Rc.encS) ∧ Below w2.heap.size w2 wr) (fun _ i _ => f.subs.length - (intOf i).toNat)
        case atStart => exact ⟨0, L0, Nat.zero_le _, rfl, Lib.hid (by simp), Nat.le_refl _, hown5, hb5⟩
        case round =>
          obtain ⟨k, L, hk, rfl, hL, hLk, hown, hb⟩ := hrel
          have hbs := hb.size
          by_cases hlt : k < f.subs.length
          · obtain ⟨x, hx⟩ : ∃ x, f.subs[k]? = some x := ⟨_, List.getElem?_eq_getElem hlt⟩
            obtain ⟨b, o, rfl, hbl, c0, c1⟩ := hAX.get hx
            replace c0 := cell_later hb c0
            replace c1 := cell_later hb c1
            have hft := Ct.filt_take (Ct.keepC 3) hx
            have hix := Rc.indexByte_mem cd.data.toList x.1
            have hkc : Ct.keepC 3 x = !(cd.data.toList.contains x.1) := by rw [HC.out]; rfl
            by_cases hm : x.1 ∈ cd.data.toList
            · have hge := hix.2 hm
              have hkf : Ct.keepC 3 x = false := by rw [hkc]; simp [hm]
              rw [hkf, if_neg (by decide), List.append_nil] at hft
              have HF := Lib.hid hft
              clear hft hix hkc hm hkf hx
              go_wp2_with (go_at_call 32; refine (Tryz.strings_IndexByte cd x.1.toNat _).mono ?_; rintro e w1 ⟨rfl, rfl⟩)
              go_roundw
              case rel => exact ⟨k + 1, L, by omega, by go_num, Lib.hid (by rw [HF.out]; exact hL.out), by omega, hown.alloc _, hb.alloc hbs _⟩
              case measure => simp [intOf]; omega
            · have hge : Lib.indexByte cd.data.toList x.1 < 0 := by
                have h9 : ¬ 0 ≤ Lib.indexByte cd.data.toList x.1 := fun h8 => hm (hix.1 h8)
                omega
              have hkt : Ct.keepC 3 x = true := by rw [hkc]; simp [hm]
              rw [hkt, if_pos rfl] at hft
              have HF := Lib.hid hft
              clear hft hix hkc hm hkt hx
              go_wp2_with (first
                | (go_at_call 32; refine (Tryz.strings_IndexByte cd x.1.toNat _).mono ?_; rintro e w1 ⟨rfl, rfl⟩)
                | (at_builtin; go_must (refine wpList_append_own _ rfl _ _ 22 rfl w2.heap.size 48 i0 _ 2 24 Tryz.underlying22 hi0 hz0 hz1 hz2 rfl (by decide) _ L.length _ rfl ((hown.alloc _).alloc _) ⟨_, 0, none⟩ 1 1 (Rc.encS x) rfl rfl (Br.cells_new_at _ _ (by first | rfl | simp) #[.int .u8 x.1.toNat, .string x.2] _) (Rc.encS_one x) (by unfold maxLen; omega) (by omega) (by simp; omega) ?_); intro v' w2' hown2 hg2 hnil2))
              have hb2 : Below w2.heap.size w2 w2' := ((hb.alloc hbs _).alloc (by simp; omega) _).grown hg2 (by simp; omega) (fun j hj => (hown.lt j hj).1)
              go_roundw
              case rel => exact ⟨k + 1, L ++ [x], by omega, by go_num, Lib.hid (by rw [HF.out, ← List.append_assoc, ← hL.out]), by simp; omega, by simpa using hown2, hb2⟩
              case measure => simp [intOf]; omega
          · obtain rfl : k = f.subs.length := by omega
            have hL2 := hL.out
            rw [List.take_length] at hL2
            have HP : Hid ((Ct.putF f h.data.toList).subs = L) := Lib.hid (by rw [Ct.putF_subs HK.out (by decide), hL2, ← HL0.out])
            clear hL hL2
            obtain ⟨va, vc, rfl, hF, hge⟩ := Br.FA.of_own Rc.encS_len hown rfl
            have hSub := Rc.SubA.of_fa hF
            obtain ⟨bc, bf, bl⟩ := Tx.blk (Tx.blk_later kbX hb)
            obtain ⟨rc, rf, rl⟩ := Tx.blk (Tx.blk_later krX hb)
            have hne0 : ∀ g, va = some g → g.block ≠ w.heap.size := fun g hg h9 => by have := hge g hg; omega
            have hne1 : ∀ g, va = some g → g.block ≠ w.heap.size + 1 := fun g hg h9 => by have := hge g hg; omega
            have HNE0 := Lib.hid hne0
            have HNE1 := Lib.hid hne1
            have HGE : Hid (∀ q, va = some q → w.heap.size ≤ q.block) := Lib.hid (fun q hq => Nat.le_trans hBX.size (hge q hq))
            have hBw := Below.trans hBX (hb.mono hBX.size)
            clear hne0 hne1 hge
            go_wp2
            refine bodyPost_ret (v := .agg #[.string f.tag, .string f.ind, .slice va L.length vc, .int .i64 f.auth]) (by simp [results, Tryz.results11, go_sem, rc]) rfl ⟨va, vc, by rw [HP.out], ?_, ?_, fun _ => HGE.out⟩
            · rw [HP.out]
              exact ((((hSub.set HNE0.out).set HNE1.out).set HNE1.out).set HNE1.out).set HNE1.out
            · exact Tx.set4 (hBw.setCell (Nat.le_refl _) _) (Nat.le_succ _) _ _ _ _
end Go.Proofs.YtlinaeklhkfbcaaGreatDoor
