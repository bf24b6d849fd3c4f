/- The reference's Keys: what the call returns. -/
import Derived.Test.YtogpghpgnpoioaaGreatDoorKk
import Derived.StillTailTactics
import Derived.Deep.RegionHeld3
import Derived.Deep.QuietTactic
namespace Go.Proofs.YtogpghpgnpoioaaGreatDoor
open Go.RowKit
set_option maxRecDepth 100000

theorem Mt.str_eq {a b : ByteArray} (h : a.data.toList = b.data.toList) : (a.toList == b.toList) = true := by
  rw [Lib.toList_data, Lib.toList_data, h]; exact beq_self_eq_true _
theorem Mt.str_ne {a b : ByteArray} (h : ¬ a.data.toList = b.data.toList) : (a.toList == b.toList) = false := by
  rw [Lib.toList_data, Lib.toList_data]; exact beq_eq_false_iff_ne.2 h
set_option maxHeartbeats 1600000 in
theorem r15_Keys_c (m : Mt.Key) (fs : List Rc.Fl) (a : Option Addr) (c : Nat) (id ver kind : Int) (lang : ByteArray) (w : World) (h : Rc.FldA w a c fs) (hG : Mt.Gf fs) (hn : 0 ≤ m.norm ∧ m.norm ≤ 4) :
    Calls Tryz.prog 18 #[.agg #[.string m.tag, .int .u8 m.code.toNat, .int .i64 m.norm, .int .i64 m.weight], .agg #[.int .i64 id, .int .i64 ver, .int .i64 kind, .string lang, .slice a fs.length c]] w fun e w' => ∃ v, e = .returned v ∧ Mt.Got w.heap.size w' v (Mt.keys m fs) ∧ Below w.heap.size w w' := by
  have hml : maxLen = 9223372036854775807 := rfl
  obtain ⟨W, hW⟩ : ∃ W, (w.alloc (.cells #[.string m.tag, .int .u8 m.code.toNat, .int .i64 m.norm, .int .i64 m.weight] 39)).alloc (.cells #[.int .i64 id, .int .i64 ver, .int .i64 kind, .string lang, .slice a fs.length c] 33) = W := ⟨_, rfl⟩
  have hB : Below w.heap.size w W := by rw [← hW]; exact (Tx.newb _ _).alloc (Tx.newb w _).size _
  have hBs := hB.size
  have k0 : W.cell? ⟨w.heap.size, 0, none⟩ = some (.string m.tag) := by rw [← hW]; simp
  have k1 : W.cell? ⟨w.heap.size, 1, none⟩ = some (.int .u8 m.code.toNat) := by rw [← hW]; simp
  have k2 : W.cell? ⟨w.heap.size, 2, none⟩ = some (.int .i64 m.norm) := by rw [← hW]; simp
  have r4 : W.cell? ⟨w.heap.size + 1, 4, none⟩ = some (.slice a fs.length c) := by rw [← hW]; simp
  have HS := Lib.hid (h.below hB)
  have hfl := hG.1
  have HG := Lib.hid hG.2
  have hcap := h.cap
  have hmax := h.max
  clear h hG
  go_enter Tryz.func18, Tryz.ntmps18
  go_wp2
  clear hW
  go_loopw [5, 6] (fun v i wr => ∃ (k : Nat) (L : List Mt.By), k ≤ fs.length ∧ i = .int .i64 k ∧ Hid (L = Cp.puts Cp.ltB (Mt.vals m (fs.take k))) ∧ L.length ≤ k * 1000 ∧ Mt.Got w.heap.size wr v L ∧ Below W.heap.size W wr) (fun _ i _ => fs.length - (intOf i).toNat)
  case atStart => exact ⟨0, [], Nat.zero_le _, rfl, Lib.hid rfl, Nat.zero_le _, ⟨_, 0, 0, rfl, ⟨Nat.le_refl _, by unfold maxLen; omega, by simp, fun j x hx => by simp at hx⟩, hBs⟩, Tx.newb _ _⟩
  case round =>
    obtain ⟨k, L, hk, rfl, hL, hLk, hGot, hb⟩ := hrel
    have hbs := hb.size
    replace k0 := cell_later hb k0
    replace k1 := cell_later hb k1
    replace k2 := cell_later hb k2
    replace r4 := cell_later hb r4
    by_cases hlt : k < fs.length
    · obtain ⟨f, hf⟩ : ∃ f, fs[k]? = some f := ⟨_, List.getElem?_eq_getElem hlt⟩
      have hgd := HG.out f (List.mem_of_getElem? hf)
      obtain ⟨b, o, sa, sc, rfl, hbl, d0, d1, d2, d3, hsub⟩ := (HS.out.below hb).get hf
      have hvs := Mt.vals_succ m hf
      rw [← Mt.valsN_all] at hvs
      have HVS := Lib.hid hvs; clear hvs hf
      have hsl := hgd.1
      have HGD := Lib.hid hgd.2; clear hgd
      obtain ⟨V1, hV1⟩ : ∃ V1, wr.alloc (.cells #[.string f.tag, .string f.ind, .slice sa f.subs.length sc, .int .i64 f.auth] 57) = V1 := ⟨_, rfl⟩
      have hbV : Below wr.heap.size wr V1 := by rw [← hV1]; exact Tx.newb _ _
      have f0 : V1.cell? ⟨wr.heap.size, 0, none⟩ = some (.string f.tag) := by rw [← hV1]; simp
      have f2 : V1.cell? ⟨wr.heap.size, 2, none⟩ = some (.slice sa f.subs.length sc) := by rw [← hV1]; simp
      have p0 := cell_later hbV k0
      have p1 := cell_later hbV k1
      have p2 := cell_later hbV k2
      have HSB := Lib.hid (hsub.below hbV)
      have hscap := hsub.cap
      have hsmax := hsub.max
      have hGot1 := hGot.below hbV
      have hbV2 := Tx.step hb hbV
      clear hsub hGot
      go_wp2
      clear hV1
      go_loopw [5, 8] (fun v i wx => ∃ (j : Nat) (L2 : List Mt.By), j ≤ f.subs.length ∧ i = .int .i64 j ∧ Hid (L2 = Cp.puts Cp.ltB (Mt.vals m (fs.take k) ++ Mt.valsN m f j)) ∧ L2.length ≤ k * 1000 + j ∧ Mt.Got w.heap.size wx v L2 ∧ Below V1.heap.size V1 wx) (fun _ i _ => f.subs.length - (intOf i).toNat)
      case atStart => exact ⟨0, L, Nat.zero_le _, rfl, Lib.hid (by rw [Mt.valsN_zero, List.append_nil]; exact hL.out), by omega, hGot1, Below.refl _ _⟩
      case round =>
        obtain ⟨j, L2, hj, rfl, hL2, hLj, hGot2, hbx⟩ := hrel
        have hbxs := hbx.size
        replace f0 := cell_later hbx f0
        replace f2 := cell_later hbx f2
        replace p0 := cell_later hbx p0
        replace p1 := cell_later hbx p1
        replace p2 := cell_later hbx p2
        have hbVx := Tx.step hbV2 hbx
        by_cases hjl : j < f.subs.length
        · obtain ⟨x, hx⟩ : ∃ x, f.subs[j]? = some x := ⟨_, List.getElem?_eq_getElem hjl⟩
          obtain ⟨sb, so, rfl, hsbl, s0, s1⟩ := (HSB.out.below hbx).get hx
          have hxg := HGD.out x (List.mem_of_getElem? hx)
          have hvn := Mt.valsN_succ m hx
          have hLn : L2.length ≤ 1000000 := by omega
          by_cases ht : f.tag.data.toList = m.tag.data.toList
          · rw [if_pos ht] at hvn
            have ht2 := Mt.str_eq ht
            by_cases hc : x.1 = m.code
            · have hc2 : ((x.1.toNat : Int) == (m.code.toNat : Int)) = true := by rw [hc]; exact beq_self_eq_true _
              unfold Mt.valS at hvn
              rw [if_pos hc] at hvn
              have NC := fun w => r15_Norm_c m.norm x.2 w hxg.1 hxg.2 hn
              obtain ⟨V, hV⟩ : ∃ V, Mt.norm m.norm x.2.data.toList = V := ⟨_, rfl⟩
              rw [hV] at hvn NC
              by_cases hVe : V = []
              · rw [if_pos hVe, List.append_nil] at hvn
                have HN : Hid (L2 = Cp.puts Cp.ltB (Mt.vals m (fs.take k) ++ Mt.valsN m f (j + 1))) := Lib.hid (by rw [hvn]; exact hL2.out)
                subst hVe
                clear hvn hV hx hxg ht hc hL2
                go_wp2; go_quiet (fail); have hbq := Tx.below_drewN (Below.refl wr.heap.size wr) nq; generalize wr.drewN nq = w5 at hbq ⊢; replace f0 := cell_later hbq f0; replace f2 := cell_later hbq f2; replace p0 := cell_later hbq p0; replace p1 := cell_later hbq p1; replace p2 := cell_later hbq p2; replace s0 := cell_later hbq s0; replace s1 := cell_later hbq s1
                go_wp2
                go_still_tail 8, (by kernel_rfl)
                change wpList _ _ _ _ _ w5.drew
                have hbq2 := Tx.step hbq (Below.refl w5.heap.size w5).drew
                generalize w5.drew = w6 at hbq2 ⊢
                have hG6 := hGot2.below hbq2
                go_wp2_with (first
                  | (go_at_call 39; ((with_reducible refine (NC _).mono ?_); rintro e w7 ⟨rfl, hb7⟩; have hG7 := hG6.below hb7)))
                go_roundw
                case rel => exact ⟨j + 1, L2, hjl, by go_num, HN, by omega, hG7, Tx.step (Tx.step hbx hbq2) hb7⟩
                case measure => simp [intOf]; omega
              · rw [if_neg hVe] at hvn
                have HN : Hid (Cp.put Cp.ltB L2 V = Cp.puts Cp.ltB (Mt.vals m (fs.take k) ++ Mt.valsN m f (j + 1))) := Lib.hid (by rw [hvn, ← List.append_assoc, Mt.puts_snoc, ← hL2.out])
                have hVi : V.isEmpty = false := by cases V <;> simp_all
                have hpl := Mt.put_len Cp.ltB V L2
                clear hvn hV hx hxg ht hc hL2 hVe
                go_wp2; go_quiet (fail); have hbq := Tx.below_drewN (Below.refl wr.heap.size wr) nq; generalize wr.drewN nq = w5 at hbq ⊢; replace f0 := cell_later hbq f0; replace f2 := cell_later hbq f2; replace p0 := cell_later hbq p0; replace p1 := cell_later hbq p1; replace p2 := cell_later hbq p2; replace s0 := cell_later hbq s0; replace s1 := cell_later hbq s1
                go_wp2
                go_still_tail 8, (by kernel_rfl)
                change wpList _ _ _ _ _ w5.drew
                have hbq2 := Tx.step hbq (Below.refl w5.heap.size w5).drew
                generalize w5.drew = w6 at hbq2 ⊢
                have hG6 := hGot2.below hbq2
                have hwx : w.heap.size ≤ w6.heap.size := by have := hbq2.size; have := hbV2.size; omega
                go_wp2_with (first
                  | (go_at_call 39; ((with_reducible refine (NC _).mono ?_); rintro e w7 ⟨rfl, hb7⟩; have hG7 := hG6.below hb7; have hs7 := hb7.size))
                  | (go_at_call 40; ((with_reducible refine (r15_PutG_c V _ hG7 (by omega) hLn).mono ?_); rintro e w8 ⟨v8, rfl, hG8, hb8⟩)))
                go_roundw
                case rel => exact ⟨j + 1, _, hjl, by go_num, HN, by omega, hG8, Tx.step (Tx.step (Tx.step hbx hbq2) hb7) hb8⟩
                case measure => simp [intOf]; omega
            · have hc2 : ((x.1.toNat : Int) == (m.code.toNat : Int)) = false := beq_eq_false_iff_ne.2 (fun h9 => hc (UInt8.toNat.inj (by omega)))
              unfold Mt.valS at hvn
              rw [if_neg hc, List.append_nil] at hvn
              have HN : Hid (L2 = Cp.puts Cp.ltB (Mt.vals m (fs.take k) ++ Mt.valsN m f (j + 1))) := Lib.hid (by rw [hvn]; exact hL2.out)
              clear hvn hx hxg ht hc hL2
              go_wp2; go_quiet (fail); have hbq := Tx.below_drewN (Below.refl wr.heap.size wr) nq; generalize wr.drewN nq = w5 at hbq ⊢; replace f0 := cell_later hbq f0; replace f2 := cell_later hbq f2; replace p0 := cell_later hbq p0; replace p1 := cell_later hbq p1; replace p2 := cell_later hbq p2; replace s0 := cell_later hbq s0; replace s1 := cell_later hbq s1
              have hG6 := hGot2.below hbq
              go_wp2
              go_roundw
              case rel => exact ⟨j + 1, L2, hjl, by go_num, HN, by omega, hG6, Tx.step hbx hbq⟩
              case measure => simp [intOf]; omega
          · rw [if_neg ht, List.append_nil] at hvn
            have ht2 := Mt.str_ne ht
            have HN : Hid (L2 = Cp.puts Cp.ltB (Mt.vals m (fs.take k) ++ Mt.valsN m f (j + 1))) := Lib.hid (by rw [hvn]; exact hL2.out)
            clear hvn hx hxg ht hL2
            go_wp2; go_quiet (fail); have hbq := Tx.below_drewN (Below.refl wr.heap.size wr) nq; generalize wr.drewN nq = w5 at hbq ⊢; replace f0 := cell_later hbq f0; replace f2 := cell_later hbq f2; replace p0 := cell_later hbq p0; replace p1 := cell_later hbq p1; replace p2 := cell_later hbq p2; replace s0 := cell_later hbq s0; replace s1 := cell_later hbq s1
            have hG6 := hGot2.below hbq
            go_wp2
            go_roundw
            case rel => exact ⟨j + 1, L2, hjl, by go_num, HN, by omega, hG6, Tx.step hbx hbq⟩
            case measure => simp [intOf]; omega
        · obtain rfl : j = f.subs.length := by omega
          have HN : Hid (L2 = Cp.puts Cp.ltB (Mt.vals m (fs.take (k + 1)))) := Lib.hid (by rw [HVS.out]; exact hL2.out)
          clear hL2
          go_wp2
          go_roundw
          case rel => exact ⟨k + 1, L2, hlt, by go_num, HN, by omega, hGot2, Tx.step hbV2 hbx⟩
          case measure => simp [intOf]; omega
    · obtain rfl : k = fs.length := by omega
      have hK : L = Mt.keys m fs := by rw [hL.out, List.take_length]; rfl
      subst hK
      go_wp2
      go_ret
      exact ⟨_, rfl, hGot, Tx.step hB hb⟩
end Go.Proofs.YtogpghpgnpoioaaGreatDoor

/- The reference's Meet: what the call returns. -/
namespace Go.Proofs.YtogpghpgnpoioaaGreatDoor
open Go.RowKit
set_option maxRecDepth 100000

namespace Mt
theorem meet_hit {a b : List By} {x : By} (h1 : x ∈ a) (h2 : x ∈ b) : meet a b = true := by
  unfold meet
  exact List.any_eq_true.2 ⟨x, h1, decide_eq_true h2⟩
theorem meet_miss {a b : List By} (h : ∀ x ∈ a, x ∉ b) : meet a b = false := by
  unfold meet
  rw [List.any_eq_false]
  intro x hx
  simpa using h x hx
theorem mem_take_succ {α : Type} {l : List α} {k : Nat} {x y : α} (h : l[k]? = some x) (hy : y ∈ l.take (k + 1)) : y ∈ l.take k ∨ y = x := by
  rw [List.take_add_one, h] at hy
  simpa using hy
end Mt

set_option maxHeartbeats 1600000 in
theorem r15_Meet_c (A B : List Mt.By) (ba oa ca bb ob cb : Nat) (w : World) (hA : Cs.LA Cs.encB w ba oa ca A) (hB : Cs.LA Cs.encB w bb ob cb B) :
    Calls Tryz.prog 42 #[.slice (some ⟨ba, oa, none⟩) A.length ca, .slice (some ⟨bb, ob, none⟩) B.length cb] w fun e w' => e = .returned (.bool (Mt.meet A B)) ∧ Below w.heap.size w w' := by
  have hml : maxLen = 9223372036854775807 := rfl
  have q1 := hA.cap
  have q2 := hA.max
  have q3 := hB.cap
  have q4 := hB.max
  go_enter Tryz.func42, Tryz.ntmps42
  go_wp2
  go_loopw [5] (fun i wr => ∃ (k : Nat), k ≤ A.length ∧ i = .int .i64 k ∧ Hid (∀ x ∈ A.take k, x ∉ B) ∧ Below w.heap.size w wr) (fun i _ => A.length - (intOf i).toNat)
  case atStart => exact ⟨0, Nat.zero_le _, rfl, Lib.hid (by simp), Below.refl _ _⟩
  case round =>
    obtain ⟨k, hk, rfl, hI, hb⟩ := hrel
    by_cases hlt : k < A.length
    · obtain ⟨x, hx⟩ : ∃ x, A[k]? = some x := ⟨_, List.getElem?_eq_getElem hlt⟩
      have hxm := List.mem_of_getElem? hx
      have cx := cell_later hb (hA.at_ k x hx)
      obtain ⟨wo, hwo⟩ : ∃ wo, wo = wr := ⟨_, rfl⟩
      subst hwo
      go_wp2
      go_loopw [6] (fun i wr => ∃ (j : Nat), j ≤ B.length ∧ i = .int .i64 j ∧ Hid (∀ y ∈ B.take j, y ≠ x) ∧ Below wo.heap.size wo wr) (fun i _ => B.length - (intOf i).toNat)
      case atStart => exact ⟨0, Nat.zero_le _, rfl, Lib.hid (by simp), Below.refl _ _⟩
      case round =>
        obtain ⟨j, hj, rfl, hJ, hb2⟩ := hrel
        replace cx := cell_later hb2 cx
        by_cases hjl : j < B.length
        · obtain ⟨y, hy⟩ : ∃ y, B[j]? = some y := ⟨_, List.getElem?_eq_getElem hjl⟩
          have cy := cell_later hb2 (cell_later hb (hB.at_ j y hy))
          by_cases hxy : x = y
          · have HM := Lib.hid (Mt.meet_hit hxm (by rw [hxy]; exact List.mem_of_getElem? hy))
            have hq : (x == y) = true := by rw [hxy]; exact beq_self_eq_true _
            clear hxy hx hy hxm
            go_wp2
            go_quiet (fail)
            have hbq := Tx.below_drewN (Below.refl wr.heap.size wr) nq
            generalize wr.drewN nq = w5 at hbq ⊢
            go_wp2
            go_ret
            exact ⟨by rw [HM.out]; rfl, Tx.step (Tx.step hb hb2) hbq⟩
          · have HN : Hid (∀ z ∈ B.take (j + 1), z ≠ x) := Lib.hid (fun z hz => by
              rcases Mt.mem_take_succ hy hz with h1 | h1
              · exact hJ.out z h1
              · rw [h1]; exact fun e => hxy e.symm)
            have hq : (x == y) = false := beq_eq_false_iff_ne.2 hxy
            clear hxy hy hJ
            go_wp2
            go_quiet (fail)
            have hbq := Tx.below_drewN (Below.refl wr.heap.size wr) nq
            generalize wr.drewN nq = w5 at hbq ⊢
            go_wp2
            go_roundw
            case rel => exact ⟨j + 1, hjl, by go_num, HN, Tx.step hb2 hbq⟩
            case measure => simp [intOf]; omega
        · obtain rfl : j = B.length := by omega
          have HN : Hid (∀ z ∈ A.take (k + 1), z ∉ B) := Lib.hid (fun z hz hzb => by
            rcases Mt.mem_take_succ hx hz with h1 | h1
            · exact hI.out z h1 hzb
            · rw [h1] at hzb
              have := hJ.out
              rw [List.take_length] at this
              exact this x hzb rfl)
          clear hx hI hJ
          go_wp2
          go_roundw
          case rel => exact ⟨k + 1, hlt, by go_num, HN, Tx.step hb hb2⟩
          case measure => simp [intOf]; omega
    · obtain rfl : k = A.length := by omega
      have hm : Mt.meet A B = false := Mt.meet_miss (by have := hI.out; rw [List.take_length] at this; exact this)
      have HM := Lib.hid hm; clear hm
      go_wp2
      go_ret
      exact ⟨by rw [HM.out]; rfl, hb⟩
end Go.Proofs.YtogpghpgnpoioaaGreatDoor

/- The reference's Score: what the call returns. -/
namespace Go.Proofs.YtogpghpgnpoioaaGreatDoor
open Go.RowKit
set_option maxRecDepth 100000

namespace Mt
/-- A rule's key, cell for cell. -/
def encK (k : Key) : List Value := [.string k.tag, .int .u8 k.code.toNat, .int .i64 k.norm, .int .i64 k.weight]
theorem encK_len (k : Key) : (encK k).length = 4 := rfl
abbrev KyA (w : World) (a : Option Addr) (c : Nat) (ks : List Key) : Prop := Br.FA encK 4 w a c ks
theorem key_at {w : World} {a : Option Addr} {c : Nat} {ks : List Key} (h : KyA w a c ks) {k : Nat} {x : Key} (hk : ks[k]? = some x) :
    ∃ b o, a = some ⟨b, o, none⟩ ∧ b < w.heap.size ∧ w.cell? ⟨b, o + k * 4, none⟩ = some (.string x.tag) ∧ w.cell? ⟨b, o + k * 4 + 1, none⟩ = some (.int .u8 x.code.toNat) ∧ w.cell? ⟨b, o + k * 4 + 2, none⟩ = some (.int .i64 x.norm) ∧ w.cell? ⟨b, o + k * 4 + 3, none⟩ = some (.int .i64 x.weight) := by
  obtain ⟨b, o, h1, h2, h3⟩ := h.get hk
  exact ⟨b, o, h1, h2, h3 0 _ rfl, h3 1 _ rfl, h3 2 _ rfl, h3 3 _ rfl⟩
/-- A right rule. -/
def Gk (k : Key) : Prop := (0 ≤ k.norm ∧ k.norm ≤ 4) ∧ 1 ≤ k.weight ∧ k.weight ≤ 100
def Gm (m : Rule) : Prop := m.keys.length ≤ 8 ∧ (∀ k ∈ m.keys, Gk k) ∧ 1 ≤ m.need ∧ m.need ≤ 800
/-- What one key adds. -/
def ptS (k : Key) (x y : List Rc.Fl) : Int := if meet (keys k x) (keys k y) = true then k.weight else 0
def sumS (ks : List Key) (x y : List Rc.Fl) : Int := (ks.map fun k => ptS k x y).sum
theorem sumS_succ {ks : List Key} {i : Nat} {k : Key} (h : ks[i]? = some k) (x y : List Rc.Fl) : sumS (ks.take (i + 1)) x y = sumS (ks.take i) x y + ptS k x y := by
  unfold sumS
  rw [List.take_add_one, h, List.map_append, List.sum_append]
  simp
theorem score_sum (m : Rule) (a b : Rc.Rd) : score m a b = sumS m.keys a.fields b.fields := rfl
theorem sumS_in {x y : List Rc.Fl} : ∀ ks : List Key, (∀ k ∈ ks, Gk k) → 0 ≤ sumS ks x y ∧ sumS ks x y ≤ 100 * ks.length
  | [], _ => by simp [sumS]
  | k :: r, h => by
    have ih := sumS_in (x := x) (y := y) r (fun z hz => h z (List.mem_cons_of_mem _ hz))
    have hk := h k (List.mem_cons_self ..)
    have e : sumS (k :: r) x y = ptS k x y + sumS r x y := by unfold sumS; simp
    have hp : 0 ≤ ptS k x y ∧ ptS k x y ≤ 100 := by unfold ptS; unfold Gk at hk; split <;> omega
    rw [e, List.length_cons]
    omega
end Mt

set_option maxHeartbeats 1600000 in
theorem r15_Score_c (m : Mt.Rule) (ka : Option Addr) (kc : Nat) (fs : List Rc.Fl) (a : Option Addr) (c : Nat) (id ver kind : Int) (lang : ByteArray) (fs2 : List Rc.Fl) (a2 : Option Addr) (c2 : Nat) (id2 ver2 kind2 : Int) (lang2 : ByteArray) (w : World) (hK : Mt.KyA w ka kc m.keys) (hm : Mt.Gm m) (h : Rc.FldA w a c fs) (hG : Mt.Gf fs) (h2 : Rc.FldA w a2 c2 fs2) (hG2 : Mt.Gf fs2) :
    Calls Tryz.prog 20 #[.agg #[.slice ka m.keys.length kc, .int .i64 m.need], .agg #[.int .i64 id, .int .i64 ver, .int .i64 kind, .string lang, .slice a fs.length c], .agg #[.int .i64 id2, .int .i64 ver2, .int .i64 kind2, .string lang2, .slice a2 fs2.length c2]] w fun e w' => e = .returned (.int .i64 (Mt.sumS m.keys fs fs2)) ∧ Below w.heap.size w w' := by
  have hml : maxLen = 9223372036854775807 := rfl
  obtain ⟨W2, hW2⟩ : ∃ W2, (w.alloc (.cells #[.slice ka m.keys.length kc, .int .i64 m.need] 24)).alloc (.cells #[.int .i64 id, .int .i64 ver, .int .i64 kind, .string lang, .slice a fs.length c] 33) = W2 := ⟨_, rfl⟩
  have hB2 : Below w.heap.size w W2 := by rw [← hW2]; exact (Tx.newb _ _).alloc (Tx.newb w _).size _
  have hsz2 : W2.heap.size = w.heap.size + 2 := by rw [← hW2]; simp
  have m0 : W2.cell? ⟨w.heap.size, 0, none⟩ = some (.slice ka m.keys.length kc) := by rw [← hW2]; simp
  have m1 : W2.cell? ⟨w.heap.size, 1, none⟩ = some (.int .i64 m.need) := by rw [← hW2]; simp
  have p0 : W2.cell? ⟨w.heap.size + 1, 0, none⟩ = some (.int .i64 id) := by rw [← hW2]; simp
  have p1 : W2.cell? ⟨w.heap.size + 1, 1, none⟩ = some (.int .i64 ver) := by rw [← hW2]; simp
  have p2 : W2.cell? ⟨w.heap.size + 1, 2, none⟩ = some (.int .i64 kind) := by rw [← hW2]; simp
  have p3 : W2.cell? ⟨w.heap.size + 1, 3, none⟩ = some (.string lang) := by rw [← hW2]; simp
  have p4 : W2.cell? ⟨w.heap.size + 1, 4, none⟩ = some (.slice a fs.length c) := by rw [← hW2]; simp
  obtain ⟨W, hW⟩ : ∃ W, W2.alloc (.cells #[.int .i64 id2, .int .i64 ver2, .int .i64 kind2, .string lang2, .slice a2 fs2.length c2] 33) = W := ⟨_, rfl⟩
  have hBn : Below W2.heap.size W2 W := by rw [← hW]; exact Tx.newb _ _
  have hB := Tx.step hB2 hBn
  have hBs := hB.size
  have q0 : W.cell? ⟨w.heap.size + 2, 0, none⟩ = some (.int .i64 id2) := by rw [← hW, ← hsz2]; simp
  have q1 : W.cell? ⟨w.heap.size + 2, 1, none⟩ = some (.int .i64 ver2) := by rw [← hW, ← hsz2]; simp
  have q2 : W.cell? ⟨w.heap.size + 2, 2, none⟩ = some (.int .i64 kind2) := by rw [← hW, ← hsz2]; simp
  have q3 : W.cell? ⟨w.heap.size + 2, 3, none⟩ = some (.string lang2) := by rw [← hW, ← hsz2]; simp
  have q4 : W.cell? ⟨w.heap.size + 2, 4, none⟩ = some (.slice a2 fs2.length c2) := by rw [← hW, ← hsz2]; simp
  replace m0 := cell_later hBn m0
  replace p0 := cell_later hBn p0
  replace p1 := cell_later hBn p1
  replace p2 := cell_later hBn p2
  replace p3 := cell_later hBn p3
  replace p4 := cell_later hBn p4
  rw [← hW2] at hW
  clear hW2 hBn hB2 hsz2 m1
  have HK := Lib.hid (hK.below hB)
  have HF := Lib.hid (h.below hB)
  have HF2 := Lib.hid (h2.below hB)
  have HG := Lib.hid hG
  have HG2 := Lib.hid hG2
  have hm8 := hm.1
  have HM := Lib.hid hm.2.1
  have hcap := hK.cap
  have hmax := hK.max
  clear h h2 hG hG2 hK hm
  go_enter Tryz.func20, Tryz.ntmps20
  go_wp2
  clear hW
  go_loopw [7, 8] (fun v i wr => ∃ (k : Nat) (s : Int), k ≤ m.keys.length ∧ i = .int .i64 k ∧ v = .int .i64 s ∧ Hid (s = Mt.sumS (m.keys.take k) fs fs2) ∧ Below W.heap.size W wr) (fun _ i _ => m.keys.length - (intOf i).toNat)
  case atStart => exact ⟨0, 0, Nat.zero_le _, rfl, rfl, Lib.hid rfl, Below.refl _ _⟩
  case round =>
    obtain ⟨k, s, hk, rfl, rfl, hs, hb⟩ := hrel
    have hsb := Mt.sumS_in (x := fs) (y := fs2) (m.keys.take k) (fun z hz => HM.out z (List.mem_of_mem_take hz))
    rw [← hs.out, List.length_take] at hsb
    have hbs := hb.size
    have hbw := Tx.step hB hb
    replace m0 := cell_later hb m0
    replace p0 := cell_later hb p0
    replace p1 := cell_later hb p1
    replace p2 := cell_later hb p2
    replace p3 := cell_later hb p3
    replace p4 := cell_later hb p4
    replace q0 := cell_later hb q0
    replace q1 := cell_later hb q1
    replace q2 := cell_later hb q2
    replace q3 := cell_later hb q3
    replace q4 := cell_later hb q4
    by_cases hlt : k < m.keys.length
    · obtain ⟨y, hy⟩ : ∃ y, m.keys[k]? = some y := ⟨_, List.getElem?_eq_getElem hlt⟩
      have hgk := HM.out y (List.mem_of_getElem? hy)
      obtain ⟨kb, ko, rfl, hkl, k0, k1, k2, k3⟩ := Mt.key_at (HK.out.below hb) hy
      have hss := Mt.sumS_succ hy fs fs2
      rw [← hs.out] at hss
      unfold Mt.ptS at hss
      have KA : ∀ w', Below wr.heap.size wr w' → Calls Tryz.prog 18 #[.agg #[.string y.tag, .int .u8 y.code.toNat, .int .i64 y.norm, .int .i64 y.weight], .agg #[.int .i64 id, .int .i64 ver, .int .i64 kind, .string lang, .slice a fs.length c]] w' fun e w'' => ∃ v, e = .returned v ∧ Mt.Got w'.heap.size w'' v (Mt.keys y fs) ∧ Below w'.heap.size w' w'' := fun w' hb' =>
        r15_Keys_c y fs a c id ver kind lang w' ((HF.out.below hb).below hb') HG.out hgk.1
      have KB : ∀ w', Below wr.heap.size wr w' → Calls Tryz.prog 18 #[.agg #[.string y.tag, .int .u8 y.code.toNat, .int .i64 y.norm, .int .i64 y.weight], .agg #[.int .i64 id2, .int .i64 ver2, .int .i64 kind2, .string lang2, .slice a2 fs2.length c2]] w' fun e w'' => ∃ v, e = .returned v ∧ Mt.Got w'.heap.size w'' v (Mt.keys y fs2) ∧ Below w'.heap.size w' w'' := fun w' hb' =>
        r15_Keys_c y fs2 a2 c2 id2 ver2 kind2 lang2 w' ((HF2.out.below hb).below hb') HG2.out hgk.1
      obtain ⟨A, hA⟩ : ∃ A, Mt.keys y fs = A := ⟨_, rfl⟩
      obtain ⟨B, hB2⟩ : ∃ B, Mt.keys y fs2 = B := ⟨_, rfl⟩
      rw [hA] at KA hss
      rw [hB2] at KB hss
      have MC := fun ba oa ca bb ob cb w1 h1 h2 => r15_Meet_c A B ba oa ca bb ob cb w1 h1 h2
      have HKA := Lib.hid KA
      have HKB := Lib.hid KB
      have hgw := hgk.2
      clear KA KB hA hB2 hgk hy
      cases hmt : Mt.meet A B with
      | true =>
        rw [hmt] at MC
        rw [if_pos hmt] at hss
        have HS := Lib.hid hss.symm
        have HMC := Lib.hid MC
        clear MC hss hmt hs
        have ws := IntWalk.i64_in (s + y.weight) ⟨by omega, by omega⟩
        go_wp2
        go_region_held3 (fun w' => Below wr.heap.size wr w' ∧ w'.cell? ⟨w.heap.size, 0, none⟩ = some (.slice (some ⟨kb, ko, none⟩) m.keys.length kc) ∧ w'.cell? ⟨kb, ko + k * 4, none⟩ = some (.string y.tag) ∧ w'.cell? ⟨kb, ko + k * 4 + 1, none⟩ = some (.int .u8 y.code.toNat) ∧ w'.cell? ⟨kb, ko + k * 4 + 2, none⟩ = some (.int .i64 y.norm) ∧ w'.cell? ⟨kb, ko + k * 4 + 3, none⟩ = some (.int .i64 y.weight) ∧ w'.cell? ⟨w.heap.size + 1, 0, none⟩ = some (.int .i64 id) ∧ w'.cell? ⟨w.heap.size + 1, 1, none⟩ = some (.int .i64 ver) ∧ w'.cell? ⟨w.heap.size + 1, 2, none⟩ = some (.int .i64 kind) ∧ w'.cell? ⟨w.heap.size + 1, 3, none⟩ = some (.string lang) ∧ w'.cell? ⟨w.heap.size + 1, 4, none⟩ = some (.slice a fs.length c) ∧ w'.cell? ⟨w.heap.size + 2, 0, none⟩ = some (.int .i64 id2) ∧ w'.cell? ⟨w.heap.size + 2, 1, none⟩ = some (.int .i64 ver2) ∧ w'.cell? ⟨w.heap.size + 2, 2, none⟩ = some (.int .i64 kind2) ∧ w'.cell? ⟨w.heap.size + 2, 3, none⟩ = some (.string lang2) ∧ w'.cell? ⟨w.heap.size + 2, 4, none⟩ = some (.slice a2 fs2.length c2))
          (first | exact ⟨(Below.refl _ _).drew, m0, k0, k1, k2, k3, p0, p1, p2, p3, p4, q0, q1, q2, q3, q4⟩ | (go_split_ands; exact ⟨Tx.step (by assumption) hbx, cell_later hbx (by assumption), cell_later hbx (by assumption), cell_later hbx (by assumption), cell_later hbx (by assumption), cell_later hbx (by assumption), cell_later hbx (by assumption), cell_later hbx (by assumption), cell_later hbx (by assumption), cell_later hbx (by assumption), cell_later hbx (by assumption), cell_later hbx (by assumption), cell_later hbx (by assumption), cell_later hbx (by assumption), cell_later hbx (by assumption), cell_later hbx (by assumption)⟩))
          (first
            | (go_split_ands; go_at_call 18; first
                | ((with_reducible refine (HKA.out _ (by assumption)).mono ?_); rintro e wx ⟨va, rfl, ga, hbx⟩; obtain ⟨ba, oa, ca, rfl, la, _⟩ := ga.h; have LA1 := Lib.hid la; clear la)
                | ((with_reducible refine (HKB.out _ (by assumption)).mono ?_); rintro e wx ⟨vb, rfl, gb, hbx⟩; obtain ⟨bb, ob, cb, rfl, lb, _⟩ := gb.h; have LB1 := Lib.hid lb; clear lb))
            | (go_split_ands; go_at_call 42; first
                | ((with_reducible refine (HMC.out _ _ _ _ _ _ _ (LA1.out.below (by assumption)) LB1.out).mono ?_); rintro e wx ⟨rfl, hbx⟩)
                | ((with_reducible refine (HMC.out _ _ _ _ _ _ _ LA1.out (LB1.out.below (by assumption))).mono ?_); rintro e wx ⟨rfl, hbx⟩)))
        all_goals (
          go_split_ands
          have hb9 : Below wr.heap.size wr wx := by assumption
          go_wp2
          go_roundw
          case rel => exact ⟨k + 1, _, hlt, by go_num, rfl, HS, Tx.step hb hb9⟩
          case measure => simp [intOf]; omega)
      | false =>
        rw [hmt] at MC
        rw [if_neg (by rw [hmt]; decide), Int.add_zero] at hss
        have HS := Lib.hid hss.symm
        have HMC := Lib.hid MC
        clear MC hss hmt hs
        go_wp2
        go_region_held3 (fun w' => Below wr.heap.size wr w' ∧ w'.cell? ⟨w.heap.size, 0, none⟩ = some (.slice (some ⟨kb, ko, none⟩) m.keys.length kc) ∧ w'.cell? ⟨kb, ko + k * 4, none⟩ = some (.string y.tag) ∧ w'.cell? ⟨kb, ko + k * 4 + 1, none⟩ = some (.int .u8 y.code.toNat) ∧ w'.cell? ⟨kb, ko + k * 4 + 2, none⟩ = some (.int .i64 y.norm) ∧ w'.cell? ⟨kb, ko + k * 4 + 3, none⟩ = some (.int .i64 y.weight) ∧ w'.cell? ⟨w.heap.size + 1, 0, none⟩ = some (.int .i64 id) ∧ w'.cell? ⟨w.heap.size + 1, 1, none⟩ = some (.int .i64 ver) ∧ w'.cell? ⟨w.heap.size + 1, 2, none⟩ = some (.int .i64 kind) ∧ w'.cell? ⟨w.heap.size + 1, 3, none⟩ = some (.string lang) ∧ w'.cell? ⟨w.heap.size + 1, 4, none⟩ = some (.slice a fs.length c) ∧ w'.cell? ⟨w.heap.size + 2, 0, none⟩ = some (.int .i64 id2) ∧ w'.cell? ⟨w.heap.size + 2, 1, none⟩ = some (.int .i64 ver2) ∧ w'.cell? ⟨w.heap.size + 2, 2, none⟩ = some (.int .i64 kind2) ∧ w'.cell? ⟨w.heap.size + 2, 3, none⟩ = some (.string lang2) ∧ w'.cell? ⟨w.heap.size + 2, 4, none⟩ = some (.slice a2 fs2.length c2))
          (first | exact ⟨(Below.refl _ _).drew, m0, k0, k1, k2, k3, p0, p1, p2, p3, p4, q0, q1, q2, q3, q4⟩ | (go_split_ands; exact ⟨Tx.step (by assumption) hbx, cell_later hbx (by assumption), cell_later hbx (by assumption), cell_later hbx (by assumption), cell_later hbx (by assumption), cell_later hbx (by assumption), cell_later hbx (by assumption), cell_later hbx (by assumption), cell_later hbx (by assumption), cell_later hbx (by assumption), cell_later hbx (by assumption), cell_later hbx (by assumption), cell_later hbx (by assumption), cell_later hbx (by assumption), cell_later hbx (by assumption), cell_later hbx (by assumption)⟩))
          (first
            | (go_split_ands; go_at_call 18; first
                | ((with_reducible refine (HKA.out _ (by assumption)).mono ?_); rintro e wx ⟨va, rfl, ga, hbx⟩; obtain ⟨ba, oa, ca, rfl, la, _⟩ := ga.h; have LA1 := Lib.hid la; clear la)
                | ((with_reducible refine (HKB.out _ (by assumption)).mono ?_); rintro e wx ⟨vb, rfl, gb, hbx⟩; obtain ⟨bb, ob, cb, rfl, lb, _⟩ := gb.h; have LB1 := Lib.hid lb; clear lb))
            | (go_split_ands; go_at_call 42; first
                | ((with_reducible refine (HMC.out _ _ _ _ _ _ _ (LA1.out.below (by assumption)) LB1.out).mono ?_); rintro e wx ⟨rfl, hbx⟩)
                | ((with_reducible refine (HMC.out _ _ _ _ _ _ _ LA1.out (LB1.out.below (by assumption))).mono ?_); rintro e wx ⟨rfl, hbx⟩)))
        all_goals (
          go_split_ands
          have hb9 : Below wr.heap.size wr wx := by assumption
          go_wp2
          go_roundw
          case rel => exact ⟨k + 1, _, hlt, by go_num, rfl, HS, Tx.step hb hb9⟩
          case measure => simp [intOf]; omega)
    · obtain rfl : k = m.keys.length := by omega
      have hs2 := hs.out
      rw [List.take_length] at hs2
      subst hs2
      go_wp2
      go_ret
      exact ⟨rfl, Tx.step hB hb⟩
end Go.Proofs.YtogpghpgnpoioaaGreatDoor
