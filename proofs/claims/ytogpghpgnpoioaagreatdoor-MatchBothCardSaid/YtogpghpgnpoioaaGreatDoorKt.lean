/- The reference's small tests on fields: what the calls return. -/
import Derived.Test.YtogpghpgnpoioaaGreatDoorKd
import Derived.Test.YtogpghpgnpoioaaGreatDoorKa
import Derived.Sort.Walk0
import Derived.Test.YtogpghpgnpoioaaGreatDoorKe
import Derived.Test.YtogpghpgnpoioaaGreatDoorKb
import Derived.Deep.DeepCutAuto
import Derived.Test.YtogpghpgnpoioaaGreatDoorKh
import Derived.Test.YtogpghpgnpoioaaGreatDoorMuJ
namespace Go.Proofs.YtogpghpgnpoioaaGreatDoor
open Go.RowKit
set_option maxRecDepth 100000

set_option maxHeartbeats 400000 in
theorem r07_digit_c (x : UInt8) (w : World) :
    Calls Tryz.prog 52 #[.int .u8 x.toNat] w fun e w' => e = .returned (.bool (Rc.digB x)) ∧ w = w' := by
  by_cases h1 : 48 ≤ x.toNat
  · by_cases h2 : x.toNat ≤ 57
    · have HQ := Lib.hid (show Rc.digB x = true by unfold Rc.digB; simp; omega)
      have g1 : (48 : Int) ≤ (x.toNat : Int) := by omega
      have g2 : (x.toNat : Int) ≤ 57 := by omega
      go_enter Tryz.func52, Tryz.ntmps52
      go_wp2
      go_ret
      exact ⟨Tx.retb (by first | exact HQ.out.symm | (rw [HQ.out]; simp; omega)), rfl⟩
    · have HQ := Lib.hid (show Rc.digB x = false by unfold Rc.digB; simp; omega)
      have g1 : (48 : Int) ≤ (x.toNat : Int) := by omega
      have g2 : (57 : Int) < (x.toNat : Int) := by omega
      go_enter Tryz.func52, Tryz.ntmps52
      go_wp2
      go_ret
      exact ⟨Tx.retb (by first | exact HQ.out.symm | (rw [HQ.out]; simp; omega)), rfl⟩
  · have HQ := Lib.hid (show Rc.digB x = false by unfold Rc.digB; simp; omega)
    have g1 : (x.toNat : Int) < 48 := by omega
    go_enter Tryz.func52, Tryz.ntmps52
    go_wp2
    go_ret
    exact ⟨Tx.retb (by first | exact HQ.out.symm | (rw [HQ.out]; simp; omega)), rfl⟩

set_option maxHeartbeats 400000 in
theorem r07_Code_c (x : UInt8) (w : World) :
    Calls Tryz.prog 33 #[.int .u8 x.toNat] w fun e w' => e = .returned (.bool (Rc.codeB x)) ∧ w = w' := by
  cases hd : Rc.digB x with
  | true =>
    have HQ := Lib.hid (show Rc.codeB x = true by unfold Rc.codeB; rw [hd]; rfl)
    have HD := Lib.hid hd; clear hd
    go_enter Tryz.func33, Tryz.ntmps33
    go_wp2_with (go_at_call 52; refine (r07_digit_c x _).mono ?_; rintro e w' ⟨rfl, rfl⟩; rw [HD.out])
    go_ret
    exact ⟨Tx.retb (by first | exact HQ.out.symm | (rw [HQ.out]; simp; omega)), rfl⟩
  | false =>
    by_cases h1 : 97 ≤ x.toNat
    · by_cases h2 : x.toNat ≤ 122
      · have HQ := Lib.hid (show Rc.codeB x = true by unfold Rc.codeB Rc.lowB; rw [hd]; simp; omega)
        have g1 : (97 : Int) ≤ (x.toNat : Int) := by omega
        have g2 : (x.toNat : Int) ≤ 122 := by omega
        have HD := Lib.hid hd; clear hd
        go_enter Tryz.func33, Tryz.ntmps33
        go_wp2_with (go_at_call 52; refine (r07_digit_c x _).mono ?_; rintro e w' ⟨rfl, rfl⟩; rw [HD.out])
        go_ret
        exact ⟨Tx.retb (by first | exact HQ.out.symm | (rw [HQ.out]; simp; omega)), rfl⟩
      · have HQ := Lib.hid (show Rc.codeB x = false by unfold Rc.codeB Rc.lowB; rw [hd]; simp; omega)
        have g1 : (97 : Int) ≤ (x.toNat : Int) := by omega
        have g2 : (122 : Int) < (x.toNat : Int) := by omega
        have HD := Lib.hid hd; clear hd
        go_enter Tryz.func33, Tryz.ntmps33
        go_wp2_with (go_at_call 52; refine (r07_digit_c x _).mono ?_; rintro e w' ⟨rfl, rfl⟩; rw [HD.out])
        go_ret
        exact ⟨Tx.retb (by first | exact HQ.out.symm | (rw [HQ.out]; simp; omega)), rfl⟩
    · have HQ := Lib.hid (show Rc.codeB x = false by unfold Rc.codeB Rc.lowB; rw [hd]; simp; omega)
      have g1 : (x.toNat : Int) < 97 := by omega
      have HD := Lib.hid hd; clear hd
      go_enter Tryz.func33, Tryz.ntmps33
      go_wp2_with (go_at_call 52; refine (r07_digit_c x _).mono ?_; rintro e w' ⟨rfl, rfl⟩; rw [HD.out])
      go_ret
      exact ⟨Tx.retb (by first | exact HQ.out.symm | (rw [HQ.out]; simp; omega)), rfl⟩

namespace Rc
/-- A text of three bytes. -/
theorem three {s : ByteArray} (h : s.size = 3) : ∃ x y z : UInt8, s = ⟨#[x, y, z]⟩ := by
  obtain ⟨⟨l⟩⟩ := s
  match l, h with
  | [x, y, z], _ => exact ⟨x, y, z, rfl⟩
theorem two {s : ByteArray} (h : s.size = 2) : ∃ x y : UInt8, s = ⟨#[x, y]⟩ := by
  obtain ⟨⟨l⟩⟩ := s
  match l, h with
  | [x, y], _ => exact ⟨x, y, rfl⟩
end Rc

set_option maxHeartbeats 800000 in
theorem r07_Tag_c (s : ByteArray) (w : World) :
    Calls Tryz.prog 32 #[.string s] w fun e w' => e = .returned (.bool (Rc.tagOk s.data.toList)) ∧ w = w' := by
  by_cases h3 : s.size = 3
  · obtain ⟨x, y, z, rfl⟩ := Rc.three h3
    clear h3
    have hq : Rc.tagOk [x, y, z] = (Rc.digB x && Rc.digB y && Rc.digB z && !decide ([x, y, z] < ([48, 49, 48] : List UInt8))) := rfl
    have e0 : ∀ h, (⟨#[x, y, z]⟩ : ByteArray)[0]'h = x := fun _ => rfl
    have e1 : ∀ h, (⟨#[x, y, z]⟩ : ByteArray)[1]'h = y := fun _ => rfl
    have e2 : ∀ h, (⟨#[x, y, z]⟩ : ByteArray)[2]'h = z := fun _ => rfl
    have es : (⟨#[x, y, z]⟩ : ByteArray).size = 3 := rfl
    cases hx : Rc.digB x with
    | false =>
      rw [hx] at hq
      have HQ := Lib.hid hq; clear hq
      have HX := Lib.hid hx; clear hx
      go_enter Tryz.func32, Tryz.ntmps32
      go_wp2_with (go_at_call 52; refine (r07_digit_c x _).mono ?_; rintro e w' ⟨rfl, rfl⟩; rw [HX.out])
      go_ret
      exact ⟨Tx.retb (by rw [HQ.out]; rfl), rfl⟩
    | true =>
      cases hy : Rc.digB y with
      | false =>
        rw [hx, hy] at hq
        have HQ := Lib.hid hq; clear hq
        have HX := Lib.hid hx; clear hx
        have HY := Lib.hid hy; clear hy
        go_enter Tryz.func32, Tryz.ntmps32
        go_wp2_with (first | (go_at_call 52; (with_reducible refine (r07_digit_c x _).mono ?_); rintro e1 w1 ⟨rfl, rfl⟩; rw [HX.out]) | (go_at_call 52; (with_reducible refine (r07_digit_c y _).mono ?_); rintro e2 w2 ⟨rfl, rfl⟩; rw [HY.out]))
        go_ret
        exact ⟨Tx.retb (by rw [HQ.out]; rfl), rfl⟩
      | true =>
        cases hz : Rc.digB z with
        | false =>
          rw [hx, hy, hz] at hq
          have HQ := Lib.hid hq; clear hq
          have HX := Lib.hid hx; clear hx
          have HY := Lib.hid hy; clear hy
          have HZ := Lib.hid hz; clear hz
          go_enter Tryz.func32, Tryz.ntmps32
          go_wp2_with (first | (go_at_call 52; (with_reducible refine (r07_digit_c x _).mono ?_); rintro e1 w1 ⟨rfl, rfl⟩; rw [HX.out]) | (go_at_call 52; (with_reducible refine (r07_digit_c y _).mono ?_); rintro e2 w2 ⟨rfl, rfl⟩; rw [HY.out]) | (go_at_call 52; (with_reducible refine (r07_digit_c z _).mono ?_); rintro e3 w3 ⟨rfl, rfl⟩; rw [HZ.out]))
          go_ret
          exact ⟨Tx.retb (by rw [HQ.out]; rfl), rfl⟩
        | true =>
          rw [hx, hy, hz] at hq
          have HQ := Lib.hid hq; clear hq
          have HX := Lib.hid hx; clear hx
          have HY := Lib.hid hy; clear hy
          have HZ := Lib.hid hz; clear hz
          go_enter Tryz.func32, Tryz.ntmps32
          go_wp2_with (first | (go_at_call 52; (with_reducible refine (r07_digit_c x _).mono ?_); rintro e1 w1 ⟨rfl, rfl⟩; rw [HX.out]) | (go_at_call 52; (with_reducible refine (r07_digit_c y _).mono ?_); rintro e2 w2 ⟨rfl, rfl⟩; rw [HY.out]) | (go_at_call 52; (with_reducible refine (r07_digit_c z _).mono ?_); rintro e3 w3 ⟨rfl, rfl⟩; rw [HZ.out]))
          go_ret
          exact ⟨Tx.retb (by rw [HQ.out]; simp [Go.Proofs.bytesLess_eq]), rfl⟩
  · have HQ := Lib.hid (show Rc.tagOk s.data.toList = false by unfold Rc.tagOk; rw [← Lib.size_eq]; simp [h3])
    have hs : ((s.size : Int) == 3) = false := by simp; omega
    clear h3
    go_enter Tryz.func32, Tryz.ntmps32
    go_wp2
    go_ret
    exact ⟨Tx.retb (by first | exact HQ.out.symm | (rw [HQ.out]; simp; omega)), rfl⟩
end Go.Proofs.YtogpghpgnpoioaaGreatDoor

/- The reference's Right of a field, its small tests of size: what the calls return. -/
namespace Go.Proofs.YtogpghpgnpoioaaGreatDoor
open Go.RowKit
set_option maxRecDepth 100000

set_option maxHeartbeats 1600000 in
theorem r07_Right_c (f : Rc.Fl) (a : Option Addr) (c : Nat) (w : World) (h : Rc.SubA w a c f.subs) (hz : ∀ x ∈ f.subs, x.2.size ≤ 1000000) :
    Calls Tryz.prog 54 #[.agg #[.string f.tag, .string f.ind, .slice a f.subs.length c, .int .i64 f.auth]] w fun e w' => e = .returned (.int .i64 (Rc.fieldE f)) ∧ Below w.heap.size w w' := by
  obtain ⟨W, hW⟩ : ∃ W, w.alloc (.cells #[.string f.tag, .string f.ind, .slice a f.subs.length c, .int .i64 f.auth] 57) = W := ⟨_, rfl⟩
  have hB : Below w.heap.size w W := by rw [← hW]; exact Tx.newb _ _
  have c0 : W.cell? ⟨w.heap.size, 0, none⟩ = some (.string f.tag) := by rw [← hW]; simp
  have c1 : W.cell? ⟨w.heap.size, 1, none⟩ = some (.string f.ind) := by rw [← hW]; simp
  have c2 : W.cell? ⟨w.heap.size, 2, none⟩ = some (.slice a f.subs.length c) := by rw [← hW]; simp
  have c3 : W.cell? ⟨w.heap.size, 3, none⟩ = some (.int .i64 f.auth) := by rw [← hW]; simp
  have hS := h.below hB
  have hcap := h.cap
  have hmx : maxLen = 9223372036854775807 := rfl
  have hmax := h.max
  have HZ := Lib.hid hz; clear hz
  cases ht : Rc.tagOk f.tag.data.toList with
  | false =>
    have HE := Lib.hid (Rc.fieldE_6 ht)
    have HT := Lib.hid ht; clear ht
    go_enter Tryz.func54, Tryz.ntmps54
    go_wp2_with (go_at_call 32; refine (r07_Tag_c f.tag _).mono ?_; rintro e w1 ⟨rfl, rfl⟩; rw [HT.out])
    go_ret
    exact ⟨Tx.ret1 HE.out.symm, hB⟩
  | true =>
    have HT := Lib.hid ht; clear ht
    go_enter Tryz.func54, Tryz.ntmps54
    go_upto_region 3 with (go_at_call 32; refine (r07_Tag_c f.tag _).mono ?_; rintro e w1 ⟨rfl, rfl⟩; rw [HT.out])
    go_cut [2, 38] (fun r t wx => ∃ b, r = .int .i64 0 ∧ t = .bool b ∧ Hid (Rc.indOk f.ind.data.toList = !b) ∧ W = wx)
    case first =>
      by_cases h2 : f.ind.size = 2
      · obtain ⟨x, hx⟩ : ∃ x, f.ind.data.toList.getD 0 0 = x := ⟨_, rfl⟩
        obtain ⟨y, hy⟩ : ∃ y, f.ind.data.toList.getD 1 0 = y := ⟨_, rfl⟩
        have e0 : ∀ h, f.ind[0]'h = x := fun h => by rw [← hx, Tx.getD_at f.ind 0 h]
        have e1 : ∀ h, f.ind[1]'h = y := fun h => by rw [← hy, Tx.getD_at f.ind 1 h]
        have hq : Rc.indOk f.ind.data.toList = (Rc.indB x && Rc.indB y) := by unfold Rc.indOk; rw [hx, hy, ← Lib.size_eq, h2]; rfl
        clear hx hy
        by_cases x2 : x.toNat = 32
        · have gx : ((x.toNat : Int) != 32) = false := by simp; omega
          by_cases y2 : y.toNat = 32
          · have gy : ((y.toNat : Int) != 32) = false := by simp; omega
            have hv : Rc.indOk f.ind.data.toList = true := by rw [hq]; unfold Rc.indB; simp [*]
            have HQ := Lib.hid hv; clear hv hq
            clear x2; clear y2
            go_wp2
            go_meet
            exact ⟨_, rfl, rfl, Lib.hid HQ.out, rfl⟩
          · have gy : ((y.toNat : Int) != 32) = true := by simp; omega
            cases dy : Rc.digB y with
            | true =>
              have hv : Rc.indOk f.ind.data.toList = true := by rw [hq]; unfold Rc.indB; simp [*]
              have HQ := Lib.hid hv; clear hv hq
              clear x2; have HY := Lib.hid dy; clear dy y2
              go_wp2_with (first | (go_at_call 52; (with_reducible refine (r07_digit_c y _).mono ?_); rintro e2 w2 ⟨rfl, rfl⟩; rw [HY.out]))
              go_meet
              exact ⟨_, rfl, rfl, Lib.hid HQ.out, rfl⟩
            | false =>
              have hv : Rc.indOk f.ind.data.toList = false := by rw [hq]; unfold Rc.indB; simp [*]
              have HQ := Lib.hid hv; clear hv hq
              clear x2; have HY := Lib.hid dy; clear dy y2
              go_wp2_with (first | (go_at_call 52; (with_reducible refine (r07_digit_c y _).mono ?_); rintro e2 w2 ⟨rfl, rfl⟩; rw [HY.out]))
              go_meet
              exact ⟨_, rfl, rfl, Lib.hid HQ.out, rfl⟩
        · have gx : ((x.toNat : Int) != 32) = true := by simp; omega
          cases dx : Rc.digB x with
          | true =>
            by_cases y2 : y.toNat = 32
            · have gy : ((y.toNat : Int) != 32) = false := by simp; omega
              have hv : Rc.indOk f.ind.data.toList = true := by rw [hq]; unfold Rc.indB; simp [*]
              have HQ := Lib.hid hv; clear hv hq
              have HX := Lib.hid dx; clear dx x2; clear y2
              go_wp2_with (first | (go_at_call 52; (with_reducible refine (r07_digit_c x _).mono ?_); rintro e1 w1 ⟨rfl, rfl⟩; rw [HX.out]))
              go_meet
              exact ⟨_, rfl, rfl, Lib.hid HQ.out, rfl⟩
            · have gy : ((y.toNat : Int) != 32) = true := by simp; omega
              cases dy : Rc.digB y with
              | true =>
                have hv : Rc.indOk f.ind.data.toList = true := by rw [hq]; unfold Rc.indB; simp [*]
                have HQ := Lib.hid hv; clear hv hq
                have HX := Lib.hid dx; clear dx x2; have HY := Lib.hid dy; clear dy y2
                go_wp2_with (first | (go_at_call 52; (with_reducible refine (r07_digit_c x _).mono ?_); rintro e1 w1 ⟨rfl, rfl⟩; rw [HX.out]) | (go_at_call 52; (with_reducible refine (r07_digit_c y _).mono ?_); rintro e2 w2 ⟨rfl, rfl⟩; rw [HY.out]))
                go_meet
                exact ⟨_, rfl, rfl, Lib.hid HQ.out, rfl⟩
              | false =>
                have hv : Rc.indOk f.ind.data.toList = false := by rw [hq]; unfold Rc.indB; simp [*]
                have HQ := Lib.hid hv; clear hv hq
                have HX := Lib.hid dx; clear dx x2; have HY := Lib.hid dy; clear dy y2
                go_wp2_with (first | (go_at_call 52; (with_reducible refine (r07_digit_c x _).mono ?_); rintro e1 w1 ⟨rfl, rfl⟩; rw [HX.out]) | (go_at_call 52; (with_reducible refine (r07_digit_c y _).mono ?_); rintro e2 w2 ⟨rfl, rfl⟩; rw [HY.out]))
                go_meet
                exact ⟨_, rfl, rfl, Lib.hid HQ.out, rfl⟩
          | false =>
            have hv : Rc.indOk f.ind.data.toList = false := by rw [hq]; unfold Rc.indB; simp [*]
            have HQ := Lib.hid hv; clear hv hq
            have HX := Lib.hid dx; clear dx x2
            go_wp2_with (first | (go_at_call 52; (with_reducible refine (r07_digit_c x _).mono ?_); rintro e1 w1 ⟨rfl, rfl⟩; rw [HX.out]))
            go_meet
            exact ⟨_, rfl, rfl, Lib.hid HQ.out, rfl⟩
      · have HQ := Lib.hid (show Rc.indOk f.ind.data.toList = false by unfold Rc.indOk; rw [← Lib.size_eq]; simp [h2])
        have gs : ((f.ind.size : Int) != 2) = true := by simp; omega
        clear h2
        go_wp2
        go_meet
        exact ⟨_, rfl, rfl, Lib.hid HQ.out, rfl⟩
    case rest =>
      obtain ⟨b, rfl, rfl, hbi, rfl⟩ := hcut
      have hi := hbi.out
      clear hbi
      cases b with
      | true =>
        rw [Bool.not_true] at hi
        have HE := Lib.hid (Rc.fieldE_3 HT.out hi)
        clear hi
        go_wp2
        go_ret
        exact ⟨Tx.ret1 HE.out.symm, hB⟩
      | false =>
        rw [Bool.not_false] at hi
        by_cases h0 : f.subs.length = 0
        · have HE := Lib.hid (Rc.fieldE_8 HT.out hi h0)
          clear hi
          go_wp2
          go_ret
          exact ⟨Tx.ret1 HE.out.symm, hB⟩
        · by_cases h16 : 16 < f.subs.length
          · have HE := Lib.hid (Rc.fieldE_4 HT.out hi h16)
            clear hi
            go_wp2
            go_ret
            exact ⟨Tx.ret1 HE.out.symm, hB⟩
          · have hmid := Rc.fieldE_mid HT.out hi h0 (by omega)
            have h0' : 0 < f.subs.length := by omega
            have h16' : f.subs.length ≤ 16 := by omega
            have HM := Lib.hid hmid
            have q0 : ((f.subs.length : Int) == 0) = false := beq_eq_false_iff_ne.2 (by omega)
            clear hi hmid h0 h16
            obtain ⟨E, hE⟩ : ∃ E, Rc.firstE (f.subs.map Rc.subE) = E := ⟨_, rfl⟩
            have HE := Lib.hid hE; clear hE
            go_wp2
            go_loopw [3, 4] (fun i _ wr => ∃ (k : Nat), k ≤ f.subs.length ∧ i = .int .i64 k ∧ Hid (Rc.firstE ((f.subs.map Rc.subE).drop k) = E) ∧ Below W.heap.size W wr) (fun i _ _ => f.subs.length - (intOf i).toNat)
            case atStart => exact ⟨0, Nat.zero_le _, rfl, Lib.hid (by rw [List.drop_zero, HE.out]), Below.refl _ _⟩
            case round =>
              obtain ⟨k, hk, rfl, hI, hb⟩ := hrel
              have hbw := Tx.step hB hb
              replace c2 := cell_later hb c2
              replace c3 := cell_later hb c3
              clear c0 c1
              by_cases hlt : k < f.subs.length
              · obtain ⟨x, hx⟩ : ∃ x, f.subs[k]? = some x := ⟨_, List.getElem?_eq_getElem hlt⟩
                have hzx := HZ.out x (List.mem_of_getElem? hx)
                obtain ⟨b, o, rfl, hbl, d0, d1⟩ := hS.get hx
                replace d0 := cell_later hb d0
                replace d1 := cell_later hb d1
                obtain ⟨s0, s1⟩ := Rc.sub_step hx hI.out
                have hbn := Tx.newb wr (.cells #[.int .u8 x.1.toNat, .string x.2] 66)
                have hb2 := Tx.step hb hbn
                have hbw2 := Tx.step hbw hbn
                clear hx hI
                cases hc : Rc.codeB x.1 with
                | false =>
                  have e1 := Rc.subE_1 hc
                  have HF := Lib.hid (show Rc.fieldE f = 1 by rw [HM.out, HE.out, s1 (by rw [e1]; decide), e1]; rfl)
                  have HC := Lib.hid hc; clear hc e1 s0 s1
                  go_wp2_with (go_at_call 33; refine (r07_Code_c x.1 _).mono ?_; rintro e w1 ⟨rfl, rfl⟩; rw [HC.out])
                  go_ret
                  exact ⟨Tx.ret1 HF.out.symm, hbw2⟩
                | true =>
                  by_cases he : x.2.data.toList = []
                  · have e1 := Rc.subE_8 hc he
                    have HF := Lib.hid (show Rc.fieldE f = 8 by rw [HM.out, HE.out, s1 (by rw [e1]; decide), e1]; rfl)
                    have hem : x.2.toList.isEmpty = true := by rw [Lib.toList_data, he]; rfl
                    have HC := Lib.hid hc; clear hc e1 s0 s1 he
                    go_wp2_with (go_at_call 33; refine (r07_Code_c x.1 _).mono ?_; rintro e w1 ⟨rfl, rfl⟩; rw [HC.out])
                    go_ret
                    exact ⟨Tx.ret1 HF.out.symm, hbw2⟩
                  · have hem : x.2.toList.isEmpty = false := by rw [Lib.toList_data]; simpa using he
                    cases hv : Tx.valid x.2.data.toList with
                    | false =>
                      have e1 := Rc.subE_3 hc he hv
                      have HF := Lib.hid (show Rc.fieldE f = 3 by rw [HM.out, HE.out, s1 (by rw [e1]; decide), e1]; rfl)
                      have HC := Lib.hid hc
                      have HV := Lib.hid hv
                      clear hc e1 s0 s1 he hv
                      go_wp2_with (first
                        | (go_at_call 33; refine (r07_Code_c x.1 _).mono ?_; rintro e w1 ⟨rfl, rfl⟩; rw [HC.out])
                        | (go_at_call 76; refine (r01_Valid_c x.2 _ (by omega)).mono ?_; rintro e w2 ⟨rfl, hb3⟩; rw [HV.out]))
                      go_ret
                      exact ⟨Tx.ret1 HF.out.symm, Tx.step hbw2 hb3⟩
                    | true =>
                      by_cases hz : 200 < x.2.size
                      · have e1 := Rc.subE_4 hc he hv hz
                        have HF := Lib.hid (show Rc.fieldE f = 4 by rw [HM.out, HE.out, s1 (by rw [e1]; decide), e1]; rfl)
                        have HC := Lib.hid hc
                        have HV := Lib.hid hv
                        clear hc e1 s0 s1 he hv
                        go_wp2_with (first
                          | (go_at_call 33; refine (r07_Code_c x.1 _).mono ?_; rintro e w1 ⟨rfl, rfl⟩; rw [HC.out])
                          | (go_at_call 76; refine (r01_Valid_c x.2 _ (by omega)).mono ?_; rintro e w2 ⟨rfl, hb3⟩; rw [HV.out]; have q1 := cell_later hb3 (show (wr.alloc (.cells #[.int .u8 x.1.toNat, .string x.2] 66)).cell? ⟨wr.heap.size, 1, none⟩ = some (.string x.2) by simp)))
                        go_ret
                        exact ⟨Tx.ret1 HF.out.symm, Tx.step hbw2 hb3⟩
                      · have e1 := Rc.subE_0 hc he hv (by omega)
                        have HN := Lib.hid (s0 e1)
                        have HC := Lib.hid hc
                        have HV := Lib.hid hv
                        have hz2 : x.2.size ≤ 200 := by omega
                        clear hc e1 s0 s1 he hv hz
                        go_wp2_with (first
                          | (go_at_call 33; refine (r07_Code_c x.1 _).mono ?_; rintro e w1 ⟨rfl, rfl⟩; rw [HC.out])
                          | (go_at_call 76; refine (r01_Valid_c x.2 _ (by omega)).mono ?_; rintro e w2 ⟨rfl, hb3⟩; rw [HV.out]; have q1 := cell_later hb3 (show (wr.alloc (.cells #[.int .u8 x.1.toNat, .string x.2] 66)).cell? ⟨wr.heap.size, 1, none⟩ = some (.string x.2) by simp)))
                        go_roundw
                        case rel => exact ⟨k + 1, by omega, by go_num, HN, Tx.step hb2 hb3⟩
                        case measure => simp [intOf]; omega
              · obtain rfl : k = f.subs.length := by omega
                have hE0 : E = 0 := by
                  rw [← hI.out, List.drop_eq_nil_of_le (by rw [List.length_map]; exact Nat.le_refl _)]; rfl
                have hf2 : Rc.fieldE f = if f.auth < 0 ∨ 9999 < f.auth then 2 else 0 := by rw [HM.out, HE.out, hE0]; rfl
                clear hE0 hI
                by_cases g1 : f.auth < 0
                · have HF := Lib.hid (show Rc.fieldE f = 2 by rw [hf2, if_pos (.inl g1)])
                  clear hf2
                  go_wp2
                  go_ret
                  exact ⟨Tx.ret1 HF.out.symm, hbw⟩
                · by_cases g2 : 9999 < f.auth
                  · have HF := Lib.hid (show Rc.fieldE f = 2 by rw [hf2, if_pos (.inr g2)])
                    clear hf2
                    have g1' : 0 ≤ f.auth := by omega
                    go_wp2
                    go_ret
                    exact ⟨Tx.ret1 HF.out.symm, hbw⟩
                  · have HF := Lib.hid (show Rc.fieldE f = 0 by rw [hf2, if_neg (by omega)])
                    clear hf2
                    have g1' : 0 ≤ f.auth := by omega
                    have g2' : f.auth ≤ 9999 := by omega
                    go_wp2
                    go_ret
                    exact ⟨Tx.ret1 HF.out.symm, hbw⟩
end Go.Proofs.YtogpghpgnpoioaaGreatDoor

/- The reference's Right of a record: what the call returns. -/
namespace Go.Proofs.YtogpghpgnpoioaaGreatDoor
open Go.RowKit
set_option maxRecDepth 100000

namespace Rc
theorem recE_2 {r : Rd} (h : r.id < 0 ∨ 9999 < r.id) : recE r = 2 := by unfold recE; rw [if_pos h]
theorem recE_20 {r : Rd} (h : ¬ (r.id < 0 ∨ 9999 < r.id)) (h2 : r.ver < 1 ∨ 3 < r.ver) : recE r = 20 := by unfold recE; rw [if_neg h, if_pos h2]
theorem recE_1 {r : Rd} (h : ¬ (r.id < 0 ∨ 9999 < r.id)) (h2 : ¬ (r.ver < 1 ∨ 3 < r.ver)) (h3 : r.kind < 1 ∨ 4 < r.kind) : recE r = 1 := by unfold recE; rw [if_neg h, if_neg h2, if_pos h3]
theorem recE_3 {r : Rd} (h : ¬ (r.id < 0 ∨ 9999 < r.id)) (h2 : ¬ (r.ver < 1 ∨ 3 < r.ver)) (h3 : ¬ (r.kind < 1 ∨ 4 < r.kind)) (h4 : r.lang.data.toList.length ≠ 3) : recE r = 3 := by unfold recE; rw [if_neg h, if_neg h2, if_neg h3, if_pos h4]
theorem recE_3b {r : Rd} (h : ¬ (r.id < 0 ∨ 9999 < r.id)) (h2 : ¬ (r.ver < 1 ∨ 3 < r.ver)) (h3 : ¬ (r.kind < 1 ∨ 4 < r.kind)) (h4 : r.lang.data.toList.length = 3) (h5 : langOk r.lang.data.toList = false) : recE r = 3 := by
  unfold recE; rw [if_neg h, if_neg h2, if_neg h3, if_neg (by omega), if_pos h5]
theorem recE_4 {r : Rd} (h : ¬ (r.id < 0 ∨ 9999 < r.id)) (h2 : ¬ (r.ver < 1 ∨ 3 < r.ver)) (h3 : ¬ (r.kind < 1 ∨ 4 < r.kind)) (h4 : r.lang.data.toList.length = 3) (h5 : langOk r.lang.data.toList = true) (h6 : 64 < r.fields.length) : recE r = 4 := by
  unfold recE; rw [if_neg h, if_neg h2, if_neg h3, if_neg (by omega), if_neg (by simp [h5]), if_pos h6]
theorem recE_f {r : Rd} (h : ¬ (r.id < 0 ∨ 9999 < r.id)) (h2 : ¬ (r.ver < 1 ∨ 3 < r.ver)) (h3 : ¬ (r.kind < 1 ∨ 4 < r.kind)) (h4 : r.lang.data.toList.length = 3) (h5 : langOk r.lang.data.toList = true) (h6 : ¬ 64 < r.fields.length) : recE r = firstE (r.fields.map fieldE) := by
  unfold recE; rw [if_neg h, if_neg h2, if_neg h3, if_neg (by omega), if_neg (by simp [h5]), if_neg h6]
theorem fld_step {l : List Fl} {k : Nat} {x : Fl} {n : Int} (h : l[k]? = some x) (hd : firstE ((l.map fieldE).drop k) = n) : (fieldE x = 0 → firstE ((l.map fieldE).drop (k + 1)) = n) ∧ (fieldE x ≠ 0 → n = fieldE x) := by
  have := firstE_step (l := l.map fieldE) (k := k) (e := fieldE x) (by rw [List.getElem?_map, h]; rfl)
  rw [hd] at this
  exact ⟨fun h0 => by rw [if_pos h0] at this; exact this.symm, fun h0 => by rw [if_neg h0] at this; exact this⟩
theorem lang_at {s : ByteArray} {k : Nat} (h : k < 3) (hl : lowB (s.data.toList.getD k 0) = false) : langOk s.data.toList = false := by
  unfold langOk
  match k, h with
  | 0, _ => rw [hl]; rfl
  | 1, _ => rw [hl]; simp
  | 2, _ => rw [hl]; simp
theorem lang_all {s : ByteArray} (h : ∀ k, k < 3 → lowB (s.data.toList.getD k 0) = true) : langOk s.data.toList = true := by
  unfold langOk
  rw [h 0 (by omega), h 1 (by omega), h 2 (by omega)]
  rfl
end Rc

set_option maxHeartbeats 3200000 in
theorem r08_Right_c (fs : List Rc.Fl) (a : Option Addr) (c : Nat) (id ver kind : Int) (lang : ByteArray) (w : World) (h : Rc.FldA w a c fs) (hz : ∀ f ∈ fs, ∀ x ∈ f.subs, x.2.size ≤ 1000000) :
    Calls Tryz.prog 36 #[.agg #[.int .i64 id, .int .i64 ver, .int .i64 kind, .string lang, .slice a fs.length c]] w fun e w' => e = .returned (.int .i64 (Rc.recE ⟨id, ver, kind, lang, fs⟩)) ∧ Below w.heap.size w w' := by
  obtain ⟨W, hW⟩ : ∃ W, w.alloc (.cells #[.int .i64 id, .int .i64 ver, .int .i64 kind, .string lang, .slice a fs.length c] 33) = W := ⟨_, rfl⟩
  have hB : Below w.heap.size w W := by rw [← hW]; exact Tx.newb _ _
  have c0 : W.cell? ⟨w.heap.size, 0, none⟩ = some (.int .i64 id) := by rw [← hW]; simp
  have c1 : W.cell? ⟨w.heap.size, 1, none⟩ = some (.int .i64 ver) := by rw [← hW]; simp
  have c2 : W.cell? ⟨w.heap.size, 2, none⟩ = some (.int .i64 kind) := by rw [← hW]; simp
  have c3 : W.cell? ⟨w.heap.size, 3, none⟩ = some (.string lang) := by rw [← hW]; simp
  have c4 : W.cell? ⟨w.heap.size, 4, none⟩ = some (.slice a fs.length c) := by rw [← hW]; simp
  have hS := h.below hB
  have hcap := h.cap
  have hmx : maxLen = 9223372036854775807 := rfl
  have hmax := h.max
  have HZ := Lib.hid hz; clear hz
  by_cases i1 : id < 0
  · have HE := Lib.hid (Rc.recE_2 (r := ⟨id, ver, kind, lang, fs⟩) (.inl i1))
    go_enter Tryz.func36, Tryz.ntmps36
    go_wp2
    go_ret
    exact ⟨Tx.ret1 HE.out.symm, hB⟩
  · have i1' : 0 ≤ id := by omega
    clear i1
    by_cases i2 : 9999 < id
    · have HE := Lib.hid (Rc.recE_2 (r := ⟨id, ver, kind, lang, fs⟩) (.inr i2))
      go_enter Tryz.func36, Tryz.ntmps36
      go_wp2
      go_ret
      exact ⟨Tx.ret1 HE.out.symm, hB⟩
    · have i2' : id ≤ 9999 := by omega
      clear i2
      have J1 := Lib.hid (show ¬ (id < 0 ∨ 9999 < id) by omega)
      by_cases v1 : ver < 1
      · have HE := Lib.hid (Rc.recE_20 (r := ⟨id, ver, kind, lang, fs⟩) J1.out (.inl v1))
        go_enter Tryz.func36, Tryz.ntmps36
        go_wp2
        go_ret
        exact ⟨Tx.ret1 HE.out.symm, hB⟩
      · have v1' : 1 ≤ ver := by omega
        clear v1
        by_cases v2 : 3 < ver
        · have HE := Lib.hid (Rc.recE_20 (r := ⟨id, ver, kind, lang, fs⟩) J1.out (.inr v2))
          go_enter Tryz.func36, Tryz.ntmps36
          go_wp2
          go_ret
          exact ⟨Tx.ret1 HE.out.symm, hB⟩
        · have v2' : ver ≤ 3 := by omega
          clear v2
          have J2 := Lib.hid (show ¬ (ver < 1 ∨ 3 < ver) by omega)
          by_cases k1 : kind < 1
          · have HE := Lib.hid (Rc.recE_1 (r := ⟨id, ver, kind, lang, fs⟩) J1.out J2.out (.inl k1))
            go_enter Tryz.func36, Tryz.ntmps36
            go_wp2
            go_ret
            exact ⟨Tx.ret1 HE.out.symm, hB⟩
          · have k1' : 1 ≤ kind := by omega
            clear k1
            by_cases k2 : 4 < kind
            · have HE := Lib.hid (Rc.recE_1 (r := ⟨id, ver, kind, lang, fs⟩) J1.out J2.out (.inr k2))
              go_enter Tryz.func36, Tryz.ntmps36
              go_wp2
              go_ret
              exact ⟨Tx.ret1 HE.out.symm, hB⟩
            · have k2' : kind ≤ 4 := by omega
              clear k2
              have J3 := Lib.hid (show ¬ (kind < 1 ∨ 4 < kind) by omega)
              by_cases l3 : lang.size = 3
              · have J4 := Lib.hid (show lang.data.toList.length = 3 by rw [← Lib.size_eq]; exact l3)
                have q1 : decide ((9999 : Int) < id) = false := decide_eq_false (by omega)
                have q2 : decide ((3 : Int) < ver) = false := decide_eq_false (by omega)
                have q3 : decide ((4 : Int) < kind) = false := decide_eq_false (by omega)
                go_enter Tryz.func36, Tryz.ntmps36
                go_wp2
                clear hW
                go_loop [3] (fun i => ∃ (k : Nat), k ≤ 3 ∧ i = .int .i64 k ∧ Hid (∀ j, j < k → Rc.lowB (lang.data.toList.getD j 0) = true)) (fun i => 3 - (intOf i).toNat)
                case atStart => exact ⟨0, by omega, rfl, Lib.hid (fun j hj => absurd hj (by omega))⟩
                case round =>
                  obtain ⟨k, hk, rfl, hE⟩ := hrel
                  by_cases hlt : k < 3
                  · obtain ⟨x, hx⟩ : ∃ x, lang.data.toList.getD k 0 = x := ⟨_, rfl⟩
                    have e0 : ∀ h, lang[k]'h = x := fun h => by rw [← hx, Tx.getD_at lang k h]
                    by_cases g1 : 97 ≤ x.toNat
                    · by_cases g2 : x.toNat ≤ 122
                      · have hE2 : Hid (∀ j, j < k + 1 → Rc.lowB (lang.data.toList.getD j 0) = true) := Lib.hid (fun j hj => by
                          rcases Nat.lt_or_ge j k with h1 | h1
                          · exact hE.out j h1
                          · obtain rfl : j = k := by omega
                            rw [hx]; exact decide_eq_true ⟨g1, g2⟩)
                        have g1' : (97 : Int) ≤ (x.toNat : Int) := by omega
                        have g2' : (x.toNat : Int) ≤ 122 := by omega
                        clear hx
                        go_wp2
                        go_round
                        case rel => exact ⟨k + 1, by omega, by go_num, hE2⟩
                        case measure => simp [intOf]; omega
                      · have HE := Lib.hid (Rc.recE_3b (r := ⟨id, ver, kind, lang, fs⟩) J1.out J2.out J3.out J4.out (Rc.lang_at hlt (by rw [hx]; exact decide_eq_false (by omega))))
                        have g1' : (97 : Int) ≤ (x.toNat : Int) := by omega
                        have g2' : (122 : Int) < (x.toNat : Int) := by omega
                        clear hx
                        go_wp2
                        go_ret
                        exact ⟨Tx.ret1 HE.out.symm, hB⟩
                    · have HE := Lib.hid (Rc.recE_3b (r := ⟨id, ver, kind, lang, fs⟩) J1.out J2.out J3.out J4.out (Rc.lang_at hlt (by rw [hx]; exact decide_eq_false (by omega))))
                      have g1' : (x.toNat : Int) < 97 := by omega
                      clear hx
                      go_wp2
                      go_ret
                      exact ⟨Tx.ret1 HE.out.symm, hB⟩
                  · obtain rfl : k = 3 := by omega
                    have J5 := Lib.hid (Rc.lang_all hE.out)
                    by_cases f6 : 64 < fs.length
                    · have HE := Lib.hid (Rc.recE_4 (r := ⟨id, ver, kind, lang, fs⟩) J1.out J2.out J3.out J4.out J5.out f6)
                      go_wp2
                      go_ret
                      exact ⟨Tx.ret1 HE.out.symm, hB⟩
                    · have HF := Lib.hid (Rc.recE_f (r := ⟨id, ver, kind, lang, fs⟩) J1.out J2.out J3.out J4.out J5.out f6)
                      have f6' : fs.length ≤ 64 := by omega
                      have q6 : decide ((64 : Int) < (fs.length : Int)) = false := decide_eq_false (by omega)
                      clear f6
                      obtain ⟨E, hEE⟩ : ∃ E, Rc.firstE (fs.map Rc.fieldE) = E := ⟨_, rfl⟩
                      have HE := Lib.hid hEE; clear hEE hE
                      go_wp2
                      go_loopw [4, 5] (fun i _ wr => ∃ (k : Nat), k ≤ fs.length ∧ i = .int .i64 k ∧ Hid (Rc.firstE ((fs.map Rc.fieldE).drop k) = E) ∧ Below W.heap.size W wr) (fun i _ _ => fs.length - (intOf i).toNat)
                      case atStart => exact ⟨0, Nat.zero_le _, rfl, Lib.hid (by rw [List.drop_zero, HE.out]), Below.refl _ _⟩
                      case round =>
                        obtain ⟨k, hk, rfl, hI, hb⟩ := hrel
                        have hbw := Tx.step hB hb
                        replace c4 := cell_later hb c4
                        clear c0 c1 c2 c3
                        by_cases hlt : k < fs.length
                        · obtain ⟨f, hf⟩ : ∃ f, fs[k]? = some f := ⟨_, List.getElem?_eq_getElem hlt⟩
                          have HZF := Lib.hid (HZ.out f (List.mem_of_getElem? hf))
                          obtain ⟨b, o, sa, sc, rfl, hbl, d0, d1, d2, d3, hsub⟩ := hS.get hf
                          replace d0 := cell_later hb d0
                          replace d1 := cell_later hb d1
                          replace d2 := cell_later hb d2
                          replace d3 := cell_later hb d3
                          have hsub2 := hsub.below hb
                          obtain ⟨s0, s1⟩ := Rc.fld_step hf hI.out
                          clear hf hI
                          obtain ⟨n, hn⟩ : ∃ n, Rc.fieldE f = n := ⟨_, rfl⟩
                          rw [hn] at s0 s1
                          have HN := Lib.hid hn; clear hn
                          by_cases n0 : n = 0
                          · have HS := Lib.hid (s0 n0)
                            have nq : (n != 0) = false := by simpa using n0
                            clear s0 s1 n0
                            go_wp2_with (go_at_call 54; refine (r07_Right_c f sa sc _ hsub2 HZF.out).mono ?_; rintro e w1 ⟨rfl, hb1⟩; rw [HN.out])
                            go_roundw
                            case rel => exact ⟨k + 1, by omega, by go_num, HS, Tx.step hb hb1⟩
                            case measure => simp [intOf]; omega
                          · have HS := Lib.hid (show Rc.recE ⟨id, ver, kind, lang, fs⟩ = n by rw [HF.out, HE.out, s1 n0])
                            have nq : (n != 0) = true := by simpa using n0
                            clear s0 s1 n0
                            go_wp2_with (go_at_call 54; refine (r07_Right_c f sa sc _ hsub2 HZF.out).mono ?_; rintro e w1 ⟨rfl, hb1⟩; rw [HN.out])
                            go_ret
                            exact ⟨Tx.ret1 HS.out.symm, Tx.step hbw hb1⟩
                        · obtain rfl : k = fs.length := by omega
                          have HS := Lib.hid (show Rc.recE ⟨id, ver, kind, lang, fs⟩ = 0 by
                            rw [HF.out, HE.out, ← hI.out, List.drop_eq_nil_of_le (by rw [List.length_map]; exact Nat.le_refl _)]; rfl)
                          clear hI
                          go_wp2
                          go_ret
                          exact ⟨Tx.ret1 HS.out.symm, hbw⟩
              · have HE := Lib.hid (Rc.recE_3 (r := ⟨id, ver, kind, lang, fs⟩) J1.out J2.out J3.out (by rw [← Lib.size_eq]; exact l3))
                have ls : ((lang.size : Int) != 3) = true := by simp; omega
                clear l3
                go_enter Tryz.func36, Tryz.ntmps36
                go_wp2
                go_ret
                exact ⟨Tx.ret1 HE.out.symm, hB⟩

end Go.Proofs.YtogpghpgnpoioaaGreatDoor

/- Layer 15's law: its small functions: what the calls return. -/
namespace Go.Proofs.YtogpghpgnpoioaaGreatDoor
open Go.RowKit
set_option maxRecDepth 100000

namespace Al
theorem eq_from {α : Type} {xs ys : List α} (hl : xs.length = ys.length) (h : ∀ j, j < xs.length → xs[j]? = ys[j]?) : xs = ys := by
  apply List.ext_getElem? 
  intro j
  rcases Nat.lt_or_ge j xs.length with h1 | h1
  · exact h j h1
  · rw [List.getElem?_eq_none h1, List.getElem?_eq_none (by omega)]
theorem ba_eq (x y : ByteArray) : (x.toList == y.toList) = decide (x = y) := by
  by_cases h : x = y
  · subst h; simp
  · have : x.toList ≠ y.toList := fun e => h (by rw [Lib.toList_data, Lib.toList_data] at e; exact ByteArray.ext (Array.toList_inj.1 e))
    simp [h, this]
end Al

set_option maxHeartbeats 1600000 in
theorem Texts_c (xs ys : List ByteArray) (a b : Option Addr) (c d : Nat) (w : World) (hx : SLA w a c xs) (hy : SLA w b d ys) :
    Calls Tryz.prog 16 #[.slice a xs.length c, .slice b ys.length d] w fun e w' => e = .returned (.bool (decide (xs = ys))) ∧ Below w.heap.size w w' := by
  have hcx := hx.cap
  have hmx := hx.max
  have hcy := hy.cap
  have hmy := hy.max
  have hml : maxLen = 9223372036854775807 := rfl
  by_cases hl : xs.length = ys.length
  · have HL := Lib.hid hl
    have hli : ((xs.length : Int) != (ys.length : Int)) = false := by simp [hl]
    clear hl
    go_enter Tryz.func16, Tryz.ntmps16
    go_wp2
    go_loopw [5] (fun i wr => ∃ (k : Nat), k ≤ xs.length ∧ i = .int .i64 k ∧ Hid (∀ j, j < k → xs[j]? = ys[j]?) ∧ Below w.heap.size w wr) (fun i _ => xs.length - (intOf i).toNat)
    case atStart => exact ⟨0, Nat.zero_le _, rfl, Lib.hid (fun j hj => absurd hj (by omega)), Below.refl _ _⟩
    case round =>
      obtain ⟨k, hk, rfl, hE, hb⟩ := hrel
      by_cases hlt : k < xs.length
      · obtain ⟨x, hxk⟩ : ∃ x, xs[k]? = some x := ⟨_, List.getElem?_eq_getElem hlt⟩
        have hlt2 : k < ys.length := by rw [← HL.out]; exact hlt
        obtain ⟨y, hyk⟩ : ∃ y, ys[k]? = some y := ⟨_, List.getElem?_eq_getElem hlt2⟩
        obtain ⟨bx, ox, rfl, hbx, cx⟩ := hx.get hxk
        obtain ⟨b1, o1, rfl, hb1, cy⟩ := hy.get hyk
        replace cx := cell_later hb cx
        replace cy := cell_later hb cy
        have hq := Al.ba_eq x y
        have g1 : (k : Int) < (xs.length : Int) := by omega
        have g2 : (k : Int) < (ys.length : Int) := by omega
        by_cases hxy : x = y
        · have hE2 : Hid (∀ j, j < k + 1 → xs[j]? = ys[j]?) := Lib.hid (fun j hj => by
            rcases Nat.lt_or_ge j k with h1 | h1
            · exact hE.out j h1
            · obtain rfl : j = k := by omega
              rw [hxk, hyk, hxy])
          rw [decide_eq_true hxy] at hq
          clear hxy hxk hyk
          go_wp2
          go_quiet (fail)
          go_wp2
          go_roundw
          case rel => exact ⟨k + 1, by omega, by go_num, hE2, Tx.below_drewN hb _⟩
          case measure => simp [intOf]; omega
        · have hne : Hid (xs ≠ ys) := Lib.hid (fun e => hxy (by rw [e, hyk] at hxk; injection hxk with h9; exact h9.symm))
          rw [decide_eq_false hxy] at hq
          clear hxy hxk hyk
          go_wp2
          go_quiet (fail)
          go_wp2
          go_ret
          exact ⟨Tx.retb (decide_eq_false hne.out).symm, Tx.below_drewN hb _⟩
      · obtain rfl : k = xs.length := by omega
        have he : Hid (xs = ys) := Lib.hid (Al.eq_from HL.out hE.out)
        go_wp2
        go_ret
        exact ⟨Tx.retb (decide_eq_true he.out).symm, hb⟩
  · have hne : Hid (xs ≠ ys) := Lib.hid (fun e => hl (by rw [e]))
    have hli : ((xs.length : Int) != (ys.length : Int)) = true := by simp; omega
    clear hl
    go_enter Tryz.func16, Tryz.ntmps16
    go_wp2
    go_ret
    exact ⟨Tx.retb (decide_eq_false hne.out).symm, Below.refl _ _⟩


namespace Mt
/-- The slice holds these numbers. -/
abbrev IA (w : World) (a : Option Addr) (c : Nat) (xs : List Int) : Prop := Br.FA enc1 1 w a c xs
theorem IA.cell {w : World} {a : Option Addr} {c : Nat} {xs : List Int} (h : IA w a c xs) {k : Nat} {x : Int} (hk : xs[k]? = some x) : ∃ b o, a = some ⟨b, o, none⟩ ∧ b < w.heap.size ∧ w.cell? ⟨b, o + k, none⟩ = some (.int .i64 x) := by
  obtain ⟨b, o, h1, h2, h3⟩ := Br.FA.get h hk
  have := h3 0 _ rfl
  rw [Nat.mul_one, Nat.add_zero] at this
  exact ⟨b, o, h1, h2, this⟩
theorem OwnI.ia {w : World} {B : Nat} {v : Value} {l : List Int} (h : OwnI w B v l) : ∃ a c, v = .slice a l.length c ∧ IA w a c l := by
  have e : l.map (Value.int .i64) = l.flatMap enc1 := by
    induction l with
    | nil => rfl
    | cons x r ih => rw [List.map_cons, List.flatMap_cons]; unfold enc1; rw [show r.map (Value.int .i64) = r.flatMap enc1 by
        clear ih h
        induction r with
        | nil => rfl
        | cons y q ih2 => rw [List.map_cons, List.flatMap_cons, ih2]; rfl]; rfl
  unfold OwnI at h
  rw [e] at h
  obtain ⟨a, c, e1, h1, _⟩ := Br.FA.of_own enc1_len h rfl
  exact ⟨a, c, e1, h1⟩
end Mt

set_option maxHeartbeats 1600000 in
theorem Ints_c (xs ys : List Int) (a b : Option Addr) (c d : Nat) (w : World) (hx : Mt.IA w a c xs) (hy : Mt.IA w b d ys) :
    Calls Tryz.prog 22 #[.slice a xs.length c, .slice b ys.length d] w fun e w' => e = .returned (.bool (decide (xs = ys))) ∧ Below w.heap.size w w' := by
  have hcx := hx.cap
  have hmx := hx.max
  have hcy := hy.cap
  have hmy := hy.max
  have hml : maxLen = 9223372036854775807 := rfl
  by_cases hl : xs.length = ys.length
  · have HL := Lib.hid hl
    have hli : ((xs.length : Int) != (ys.length : Int)) = false := by simp [hl]
    clear hl
    go_enter Tryz.func22, Tryz.ntmps22
    go_wp2
    go_loopw [5] (fun i wr => ∃ (k : Nat), k ≤ xs.length ∧ i = .int .i64 k ∧ Hid (∀ j, j < k → xs[j]? = ys[j]?) ∧ Below w.heap.size w wr) (fun i _ => xs.length - (intOf i).toNat)
    case atStart => exact ⟨0, Nat.zero_le _, rfl, Lib.hid (fun j hj => absurd hj (by omega)), Below.refl _ _⟩
    case round =>
      obtain ⟨k, hk, rfl, hE, hb⟩ := hrel
      by_cases hlt : k < xs.length
      · obtain ⟨x, hxk⟩ : ∃ x, xs[k]? = some x := ⟨_, List.getElem?_eq_getElem hlt⟩
        have hlt2 : k < ys.length := by rw [← HL.out]; exact hlt
        obtain ⟨y, hyk⟩ : ∃ y, ys[k]? = some y := ⟨_, List.getElem?_eq_getElem hlt2⟩
        obtain ⟨bx, ox, rfl, hbx, cx⟩ := Mt.IA.cell hx hxk
        obtain ⟨b1, o1, rfl, hb1, cy⟩ := Mt.IA.cell hy hyk
        replace cx := cell_later hb cx
        replace cy := cell_later hb cy
        have hq : (x != y) = !decide (x = y) := by by_cases h : x = y <;> simp [h]
        have g1 : (k : Int) < (xs.length : Int) := by omega
        have g2 : (k : Int) < (ys.length : Int) := by omega
        by_cases hxy : x = y
        · have hE2 : Hid (∀ j, j < k + 1 → xs[j]? = ys[j]?) := Lib.hid (fun j hj => by
            rcases Nat.lt_or_ge j k with h1 | h1
            · exact hE.out j h1
            · obtain rfl : j = k := by omega
              rw [hxk, hyk, hxy])
          rw [decide_eq_true hxy, Bool.not_true] at hq
          clear hxy hxk hyk
          go_wp2
          go_quiet (fail)
          go_wp2
          go_roundw
          case rel => exact ⟨k + 1, by omega, by go_num, hE2, Tx.below_drewN hb _⟩
          case measure => simp [intOf]; omega
        · have hne : Hid (xs ≠ ys) := Lib.hid (fun e => hxy (by rw [e, hyk] at hxk; injection hxk with h9; exact h9.symm))
          rw [decide_eq_false hxy, Bool.not_false] at hq
          clear hxy hxk hyk
          go_wp2
          go_quiet (fail)
          go_wp2
          go_ret
          exact ⟨Tx.retb (decide_eq_false hne.out).symm, Tx.below_drewN hb _⟩
      · obtain rfl : k = xs.length := by omega
        have he : Hid (xs = ys) := Lib.hid (Al.eq_from HL.out hE.out)
        go_wp2
        go_ret
        exact ⟨Tx.retb (decide_eq_true he.out).symm, hb⟩
  · have hne : Hid (xs ≠ ys) := Lib.hid (fun e => hl (by rw [e]))
    have hli : ((xs.length : Int) != (ys.length : Int)) = true := by simp; omega
    clear hl
    go_enter Tryz.func22, Tryz.ntmps22
    go_wp2
    go_ret
    exact ⟨Tx.retb (decide_eq_false hne.out).symm, Below.refl _ _⟩


set_option maxHeartbeats 800000 in
theorem m_valid_c (fs : List Rc.Fl) (a : Option Addr) (c : Nat) (id ver kind : Int) (lang : ByteArray) (w : World) (h : Rc.FldA w a c fs) :
    Calls Tryz.prog 15 #[.agg #[.int .i64 id, .int .i64 ver, .int .i64 kind, .string lang, .slice a fs.length c]] w fun e w' => e = .returned (.bool (Rc.smallR fs && decide (Rc.recE ⟨id, ver, kind, lang, fs⟩ = 0))) ∧ Below w.heap.size w w' := by
  obtain ⟨W, hW⟩ : ∃ W, w.alloc (.cells #[.int .i64 id, .int .i64 ver, .int .i64 kind, .string lang, .slice a fs.length c] 33) = W := ⟨_, rfl⟩
  have hB : Below w.heap.size w W := by rw [← hW]; exact Tx.newb _ _
  have c0 : W.cell? ⟨w.heap.size, 0, none⟩ = some (.int .i64 id) := by rw [← hW]; simp
  have c1 : W.cell? ⟨w.heap.size, 1, none⟩ = some (.int .i64 ver) := by rw [← hW]; simp
  have c2 : W.cell? ⟨w.heap.size, 2, none⟩ = some (.int .i64 kind) := by rw [← hW]; simp
  have c3 : W.cell? ⟨w.heap.size, 3, none⟩ = some (.string lang) := by rw [← hW]; simp
  have c4 : W.cell? ⟨w.heap.size, 4, none⟩ = some (.slice a fs.length c) := by rw [← hW]; simp
  have hS := h.below hB
  cases hs : Rc.smallR fs with
  | false =>
    have HS := Lib.hid hs; clear hs
    go_enter Tryz.func15, Tryz.ntmps15
    go_wp2_with (go_at_call 35; refine (Small_c fs a c id ver kind lang _ hS).mono ?_; rintro e w1 ⟨rfl, hb1⟩; rw [HS.out])
    go_ret
    exact ⟨Tx.retb (by simp), Tx.step hB hb1⟩
  | true =>
    have HZ := Lib.hid (show ∀ f ∈ fs, ∀ x ∈ f.subs, x.2.size ≤ 1000000 from fun f hf x hx => by
      have := (Rc.smallF_of ((Rc.smallR_of hs).2 f hf)).2 x hx
      omega)
    have HS := Lib.hid hs; clear hs
    obtain ⟨n, hn⟩ : ∃ n, Rc.recE ⟨id, ver, kind, lang, fs⟩ = n := ⟨_, rfl⟩
    have HN := Lib.hid hn; clear hn
    go_enter Tryz.func15, Tryz.ntmps15
    go_wp2_with (first
      | (go_at_call 35; refine (Small_c fs a c id ver kind lang _ hS).mono ?_; rintro e w1 ⟨rfl, hb1⟩; rw [HS.out]; replace c0 := cell_later hb1 c0; replace c1 := cell_later hb1 c1; replace c2 := cell_later hb1 c2; replace c3 := cell_later hb1 c3; replace c4 := cell_later hb1 c4)
      | (go_at_call 36; refine (r08_Right_c fs a c id ver kind lang _ (hS.below hb1) HZ.out).mono ?_; rintro e w2 ⟨rfl, hb2⟩; rw [HN.out]))
    go_ret
    exact ⟨Tx.retb (by rw [HN.out, Bool.eq_iff_iff]; simp), Tx.step (Tx.step hB hb1) hb2⟩

namespace Mt
open Rc
def validB (r : Rd) : Bool := smallR r.fields && decide (recE r = 0)
def allB (l : List Rd) : Bool := decide (l.length ≤ 8) && l.all validB && decide (ids l).Nodup
theorem validB_gf {r : Rd} (h : validB r = true) : Gf r.fields := by
  unfold validB at h
  simp only [Bool.and_eq_true, decide_eq_true_eq] at h
  obtain ⟨_, _, _, _, _, h1, h2⟩ := recE_zero h.2
  exact ⟨h1, fun f hf => (h2 f hf).gd⟩
theorem allB_of {l : List Rd} (h : allB l = true) : l.length ≤ 8 ∧ (∀ x ∈ l, Gf x.fields) ∧ (ids l).Nodup := by
  unfold allB at h
  simp only [Bool.and_eq_true, decide_eq_true_eq, List.all_eq_true] at h
  exact ⟨h.1.1, fun x hx => validB_gf (h.1.2 x hx), h.2⟩
end Mt
theorem m_valid_rd (r : Rc.Rd) (a : Option Addr) (c : Nat) (w : World) (h : Rc.FldA w a c r.fields) :
    Calls Tryz.prog 15 #[.agg #[.int .i64 r.id, .int .i64 r.ver, .int .i64 r.kind, .string r.lang, .slice a r.fields.length c]] w fun e w' => e = .returned (.bool (Mt.validB r)) ∧ Below w.heap.size w w' :=
  m_valid_c r.fields a c r.id r.ver r.kind r.lang w h
set_option maxHeartbeats 800000 in
theorem m_all_c (l : List Rc.Rd) (a : Option Addr) (c : Nat) (w : World) (h : Rc.RdA w a c l) :
    Calls Tryz.prog 21 #[.slice a l.length c] w fun e w' => e = .returned (.bool (Mt.allB l)) ∧ Below w.heap.size w w' := by
  have hml : maxLen = 9223372036854775807 := rfl
  have hcap := h.cap
  have hmax := h.max
  have HL := Lib.hid h
  clear h
  by_cases h8 : 8 < l.length
  · have HB : Hid (Mt.allB l = false) := Lib.hid (by unfold Mt.allB; rw [decide_eq_false (by omega)]; rfl)
    have h8i : (l.length : Int) > 8 := by omega
    go_enter Tryz.func21, Tryz.ntmps21
    go_wp2
    go_ret
    exact ⟨by rw [HB.out]; rfl, Below.refl _ _⟩
  have HB : Hid (Mt.allB l = (l.all Mt.validB && decide (Mt.ids l).Nodup)) := Lib.hid (by unfold Mt.allB; rw [decide_eq_true (by omega)]; rfl)
  have h8i : ¬ (l.length : Int) > 8 := by omega
  go_enter Tryz.func21, Tryz.ntmps21
  go_wp2
  go_loopw [3] (fun i wr => ∃ k : Nat, k ≤ l.length ∧ i = .int .i64 k ∧ Hid ((l.take k).all Mt.validB = true) ∧ Below w.heap.size w wr) (fun i _ => l.length - (intOf i).toNat)
  case atStart => exact ⟨0, Nat.zero_le _, rfl, Lib.hid rfl, Below.refl _ _⟩
  case round =>
    obtain ⟨k, hk, rfl, hA, hb⟩ := hrel
    by_cases hlt : k < l.length
    · obtain ⟨x, hx⟩ : ∃ x, l[k]? = some x := ⟨_, List.getElem?_eq_getElem hlt⟩
      obtain ⟨b, o, fa, fc, rfl, hbl, x0, x1, x2, x3, x4, hfx⟩ := HL.out.get hx
      replace x0 := cell_later hb x0
      replace x1 := cell_later hb x1
      replace x2 := cell_later hb x2
      replace x3 := cell_later hb x3
      replace x4 := cell_later hb x4
      have hst : (l.take (k + 1)).all Mt.validB = ((l.take k).all Mt.validB && Mt.validB x) := by rw [List.take_add_one, hx, List.all_append]; simp
      rw [hA.out, Bool.true_and] at hst
      have VC := m_valid_rd x fa fc wr (hfx.below hb)
      cases hv : Mt.validB x with
      | true =>
        rw [hv] at VC hst
        have HS := Lib.hid hst
        have HV := Lib.hid VC
        clear hst hv hx hfx hA VC
        go_wp2_with (go_at_call 15; ((with_reducible refine HV.out.mono ?_); rintro e w1 ⟨rfl, hb1⟩))
        go_roundw
        case rel => exact ⟨k + 1, hlt, by go_num, HS, Tx.step hb hb1⟩
        case measure => simp [intOf]; omega
      | false =>
        rw [hv] at VC
        have HF : Hid (Mt.allB l = false) := Lib.hid (by rw [HB.out, List.all_eq_false.2 ⟨x, List.mem_of_getElem? hx, by rw [hv]; simp⟩]; rfl)
        have HV := Lib.hid VC
        clear hst hv hx hfx hA VC
        go_wp2_with (go_at_call 15; ((with_reducible refine HV.out.mono ?_); rintro e w1 ⟨rfl, hb1⟩))
        go_ret
        exact ⟨by rw [HF.out]; rfl, Tx.step hb hb1⟩
    · obtain rfl : k = l.length := by omega
      have HF : Hid (Mt.allB l = decide (Mt.ids l).Nodup) := Lib.hid (by have := hA.out; rw [List.take_length] at this; rw [HB.out, this]; rfl)
      have HD := Lib.hid (r15_Distinct_c l a c wr (HL.out.below hb))
      clear hA
      go_wp2_with (go_at_call 43; ((with_reducible refine HD.out.mono ?_); rintro e w1 ⟨rfl, hb1⟩))
      go_ret
      exact ⟨by rw [HF.out]; rfl, Tx.step hb hb1⟩
set_option maxHeartbeats 800000 in
theorem m_found_c (xs : List Int) (n : Int) (a : Option Addr) (c : Nat) (w : World) (h : Mt.IA w a c xs) :
    Calls Tryz.prog 28 #[.slice a xs.length c, .int .i64 n] w fun e w' => e = .returned (.bool (decide (n ∈ xs))) ∧ w = w' := by
  have hml : maxLen = 9223372036854775807 := rfl
  have hcap := h.cap
  have hmax := h.max
  have HS := Lib.hid h
  clear h
  go_enter Tryz.func28, Tryz.ntmps28
  go_wp2
  go_loop [5] (fun i => ∃ k : Nat, k ≤ xs.length ∧ i = .int .i64 k ∧ Hid (n ∉ xs.take k)) (fun i => xs.length - (intOf i).toNat)
  case atStart => exact ⟨0, Nat.zero_le _, rfl, Lib.hid (by simp)⟩
  case round =>
    obtain ⟨k, hk, rfl, hA⟩ := hrel
    by_cases hlt : k < xs.length
    · obtain ⟨x, hx⟩ : ∃ x, xs[k]? = some x := ⟨_, List.getElem?_eq_getElem hlt⟩
      obtain ⟨b, o, rfl, hbl, c0⟩ := Mt.IA.cell HS.out hx
      by_cases hq : x = n
      · have HB : Hid (decide (n ∈ xs) = true) := Lib.hid (decide_eq_true (by rw [← hq]; exact List.mem_of_getElem? hx))
        have hqq : (x == n) = true := by rw [hq]; exact beq_self_eq_true _
        clear hq hx hA
        go_wp2
        go_ret
        exact ⟨by rw [HB.out]; rfl, rfl⟩
      · have HN : Hid (n ∉ xs.take (k + 1)) := Lib.hid (fun h9 => by
          rcases Mt.mem_take_succ hx h9 with h1 | h1
          · exact hA.out h1
          · exact hq h1.symm)
        have hqq : (x == n) = false := beq_eq_false_iff_ne.2 hq
        clear hq hx hA
        go_wp2
        go_round
        case rel => exact ⟨k + 1, hlt, by go_num, HN⟩
        case measure => simp [intOf]; omega
    · obtain rfl : k = xs.length := by omega
      have HB : Hid (decide (n ∈ xs) = false) := Lib.hid (decide_eq_false (by have := hA.out; rw [List.take_length] at this; exact this))
      clear hA
      go_wp2
      go_ret
      exact ⟨by rw [HB.out]; rfl, rfl⟩
theorem Mt.lit {α : Type} {enc : α → List Value} {size : Nat} (hs : ∀ x, (enc x).length = size) {w : World} {b : Nat} {xs : List α} {t : TypeId} (h : w.heap[b]? = some (.cells (xs.flatMap enc).toArray t (0, 0))) (hl : xs.length ≤ 1000) : Br.FA enc size w (some ⟨b, 0, Option.none⟩) xs.length xs := by
  refine ⟨Nat.le_refl _, by unfold maxLen; omega, b, 0, fun _ => ⟨rfl, (Array.getElem?_eq_some_iff.1 h).1⟩, fun j i x u hx hu => ?_⟩
  rw [Nat.zero_add, (Tx.blk h).1, List.getElem?_toArray, Br.flat_at enc size hs xs j i x hx (by rw [← hs x]; exact (List.getElem?_eq_some_iff.1 hu).1), hu]
theorem Mt.new2 (w : World) (o1 o2 : Obj) : ((w.alloc o1).alloc o2).heap[w.heap.size + 1]? = some o2 := by
  have h := heap_alloc_new (w.alloc o1) o2
  have hs : (w.alloc o1).heap.size = w.heap.size + 1 := by simp
  rwa [hs] at h
set_option maxHeartbeats 800000 in
theorem m_field_c (tag : ByteArray) (code : UInt8) (val : ByteArray) (w : World) :
    Calls Tryz.prog 30 #[.string tag, .int .u8 code.toNat, .string val] w fun e w' => ∃ X, e = .returned (.agg #[.string tag, .string ⟨#[32, 32]⟩, .slice (some ⟨X, 0, none⟩) 1 1, .int .i64 0]) ∧ Rc.SubA w' (some ⟨X, 0, none⟩) 1 [(code, val)] ∧ Below w.heap.size w w' := by
  go_enter Tryz.func30, Tryz.ntmps30
  go_wp2
  refine bodyPost_ret (v := .agg #[.string tag, .string ⟨#[32, 32]⟩, .slice (some ⟨w.heap.size + 1, 0, none⟩) 1 1, .int .i64 0]) (by simp [results, Tryz.results30, go_sem]) rfl ⟨_, rfl, ?_, ?_⟩
  · exact Rc.SubA.of_fa (Mt.lit Rc.encS_len (xs := [(code, val)]) (Mt.new2 _ _ _) (by simp))
  · exact (Tx.newb _ _).alloc (Tx.newb w _).size _
set_option maxHeartbeats 800000 in
theorem m_book_c (id : Int) (a : Option Addr) (n c : Nat) (w : World) :
    Calls Tryz.prog 29 #[.int .i64 id, .slice a n c] w fun e w' => e = .returned (.agg #[.int .i64 id, .int .i64 3, .int .i64 1, .string ⟨#[101, 110, 103]⟩, .slice a n c]) ∧ Below w.heap.size w w' := by
  go_enter Tryz.func29, Tryz.ntmps29
  go_wp2
  refine bodyPost_ret (v := .agg #[.int .i64 id, .int .i64 3, .int .i64 1, .string ⟨#[101, 110, 103]⟩, .slice a n c]) (by simp [results, Tryz.results29, go_sem]) rfl ⟨rfl, ?_⟩
  exact Tx.newb _ _
end Go.Proofs.YtogpghpgnpoioaaGreatDoor
