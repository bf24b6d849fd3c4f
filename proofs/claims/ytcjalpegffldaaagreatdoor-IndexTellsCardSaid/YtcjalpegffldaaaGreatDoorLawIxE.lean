/- Layer 20: the law IndexTells: what its call returns. -/
import Derived.Test.YtcjalpegffldaaaGreatDoorLzP
namespace Go.Proofs.YtcjalpegffldaaaGreatDoor
open Go.RowKit
set_option maxRecDepth 100000

namespace Ix
def metC (rs : List Rc.Rd) (r : Rc.Rd) (m : Nat) : Bool := (rs.take m).any fun q => q.id == r.id
theorem metC_succ {rs : List Rc.Rd} {r x : Rc.Rd} {m : Nat} (h : rs[m]? = some x) : metC rs r (m + 1) = (metC rs r m || (x.id == r.id)) := by
  unfold metC
  rw [take_snoc h, List.any_append]
  simp
def hasB (L : List By) (a : By) (m : Nat) : Bool := (L.take m).any fun x => x == a
theorem hasB_succ {L : List By} {a x : By} {m : Nat} (h : L[m]? = some x) : hasB L a (m + 1) = (hasB L a m || (x == a)) := by
  unfold hasB
  rw [take_snoc h, List.any_append]
  simp
theorem hasB_all (L : List By) (a : By) : hasB L a L.length = decide (a ∈ L) := by
  unfold hasB
  rw [List.take_length, Bool.eq_iff_iff, List.any_eq_true, decide_eq_true_eq]
  constructor
  · rintro ⟨x, hx, e⟩
    rw [← (beq_iff_eq.1 e)]
    exact hx
  · intro h
    exact ⟨a, h, beq_self_eq_true a⟩
end Ix

set_option maxHeartbeats 25600000 in
theorem tells_law (rs : List Rc.Rd) (ra : Option Addr) (rc : Nat) (f : Int) (a b : Ix.By) (w : World) (hG : G w) (hR : Rc.RdA w ra rc rs) (hz : ∀ r ∈ rs, ∀ f ∈ r.fields, ∀ s ∈ f.subs, s.2.size ≤ 140737488351232) :
    Calls Tryz.prog 6 #[.slice ra rs.length rc, .int .i64 f, .string ⟨a.toArray⟩, .string ⟨b.toArray⟩] w fun e w' => e = .returned (.bool true) ∧ Below w.heap.size w w' := by
  have hcap := hR.cap
  have HG := Lib.hid hG
  have HR := Lib.hid hR
  have HZ := Lib.hid hz
  clear hG hR hz
  cases q1 : Ix.fewB rs with
  | false =>
    have HV1 := Lib.hid q1; clear q1
    go_enter Tryz.func6, Tryz.ntmps6
    go_wp2_with (first
      | (go_at_call 9; refine (lx_alive_c _ HG.out).mono ?_; rintro e w1 ⟨rfl, hb1⟩)
      | (go_at_call 14; refine (lx_few_c rs ra rc _ (HR.out.below hb1) HZ.out).mono ?_; rintro e w2 ⟨rfl, hb2⟩; rw [HV1.out]; have HB2 := Lib.hid (Tx.step hb1 hb2)))
    go_ret
    exact ⟨rfl, HB2.out⟩
  | true =>
    have HF := Lib.hid (Ix.few_f q1)
    have HV1 := Lib.hid q1; clear q1
    have hn5 := HF.out.len
    by_cases qa : a.length ≤ 100
    · have qa1 : ¬ (100 : Int) < (a.length : Int) := by omega
      have qa2 : decide ((100 : Int) < (a.length : Int)) = false := decide_eq_false qa1
      by_cases qb : b.length ≤ 100
      · have qb1 : ¬ (100 : Int) < (b.length : Int) := by omega
        have qb2 : decide ((100 : Int) < (b.length : Int)) = false := decide_eq_false qb1
        by_cases qf : f < 0
        · have qf2 : decide (f < 0) = true := decide_eq_true qf
          go_enter Tryz.func6, Tryz.ntmps6
          go_wp2_with (first
            | (go_at_call 9; refine (lx_alive_c _ HG.out).mono ?_; rintro e w1 ⟨rfl, hb1⟩)
            | (go_at_call 14; refine (lx_few_c rs ra rc _ (HR.out.below hb1) HZ.out).mono ?_; rintro e w2 ⟨rfl, hb2⟩; rw [HV1.out]; have HB2 := Lib.hid (Tx.step hb1 hb2)))
          go_ret
          exact ⟨rfl, HB2.out⟩
        · have qf2 : decide (f < 0) = false := decide_eq_false qf
          by_cases qg : 4 < f
          · have qg2 : decide (4 < f) = true := decide_eq_true qg
            go_enter Tryz.func6, Tryz.ntmps6
            go_wp2_with (first
              | (go_at_call 9; refine (lx_alive_c _ HG.out).mono ?_; rintro e w1 ⟨rfl, hb1⟩)
              | (go_at_call 14; refine (lx_few_c rs ra rc _ (HR.out.below hb1) HZ.out).mono ?_; rintro e w2 ⟨rfl, hb2⟩; rw [HV1.out]; have HB2 := Lib.hid (Tx.step hb1 hb2)))
            go_ret
            exact ⟨rfl, HB2.out⟩
          · have qg2 : decide (4 < f) = false := decide_eq_false qg
            have HFF : Hid (0 ≤ f ∧ f ≤ 4) := Lib.hid (by omega)
            go_enter Tryz.func6, Tryz.ntmps6
            go_wp2_with (first
              | (go_at_call 9; refine (lx_alive_c _ HG.out).mono ?_; rintro e w1 ⟨rfl, hb1⟩)
              | (go_at_call 14; refine (lx_few_c rs ra rc _ (HR.out.below hb1) HZ.out).mono ?_; rintro e w2 ⟨rfl, hb2⟩; rw [HV1.out]; have HB2 := Lib.hid (Tx.step hb1 hb2)))
            clear qa1 qa2 qb1 qb2 qf2 qg2 qf qg
            go_loopw [9, 10] (fun i _ wr => ∃ (k : Nat), k ≤ rs.length ∧ i = .int .i64 k ∧ Hid (Ix.diffB rs k = true) ∧ Below w2.heap.size w2 wr) (fun i _ _ => rs.length - (intOf i).toNat)
            case atStart => exact ⟨0, Nat.zero_le _, by go_num, Lib.hid rfl, Below.refl _ _⟩
            case round =>
              obtain ⟨k, hk, rfl, HD, hbo⟩ := hrel
              obtain ⟨wo, hwo⟩ : ∃ wo, wo = wr := ⟨_, rfl⟩
              subst hwo
              have HBO := Lib.hid hbo
              have HBW := Lib.hid (Tx.step HB2.out hbo)
              by_cases hlt : k < rs.length
              · obtain ⟨r, hr⟩ : ∃ r, rs[k]? = some r := ⟨_, List.getElem?_eq_getElem hlt⟩
                have HRK := Lib.hid hr
                obtain ⟨bb, o, rfl, hbl, hat⟩ := Ix.RdA.ids (HR.out.below HBW.out) (by intro e; rw [e] at hr; simp at hr)
                have HAT := Lib.hid hat
                have HD0 := Lib.hid (hat k r hr)
                have hk2 : (k : Int) < (rs.length : Int) := by omega
                have hk0 : (0 : Int) ≤ (k : Int) := by omega
                clear hr hat hbo
                go_wp2
                go_loopw [10] (fun j w' => ∃ (m : Nat), m ≤ k ∧ j = .int .i64 m ∧ Hid (Ix.metC rs r m = false) ∧ Below wo.heap.size wo w') (fun j _ => k - (intOf j).toNat)
                case atStart => exact ⟨0, Nat.zero_le _, by go_num, Lib.hid rfl, Below.refl _ _⟩
                case round =>
                  obtain ⟨m, hm, rfl, HMC, hbi⟩ := hrel
                  obtain ⟨wi, hwi⟩ : ∃ wi, wi = wr := ⟨_, rfl⟩
                  subst hwi
                  have HBI := Lib.hid hbi
                  have f0 := cell_later hbi HD0.out
                  by_cases hmk : m < k
                  · obtain ⟨x, hx⟩ : ∃ x, rs[m]? = some x := ⟨_, List.getElem?_eq_getElem (by omega)⟩
                    have g0 := cell_later hbi (HAT.out m x hx)
                    have hm2 : (m : Int) < (rs.length : Int) := by omega
                    have hm0 : (0 : Int) ≤ (m : Int) := by omega
                    have HMS := Lib.hid (Ix.metC_succ (r := r) hx)
                    clear hx hbi
                    cases hxb : (x.id == r.id) with
                    | true =>
                      go_wp2
                      go_quiet (fail)
                      all_goals go_wp2
                      all_goals go_ret
                      all_goals exact ⟨rfl, Tx.below_drewN (Tx.step HBW.out HBI.out) _⟩
                    | false =>
                      rw [hxb] at HMS
                      go_wp2
                      go_quiet (fail)
                      all_goals go_wp2
                      all_goals go_roundw
                      case rel => exact ⟨m + 1, hmk, by go_num, Lib.hid (by rw [HMS.out, HMC.out]; rfl), Tx.below_drewN HBI.out _⟩
                      case measure => simp [intOf]; omega
                  · obtain rfl : k = m := by omega
                    have HDN : Hid (Ix.diffB rs (k + 1) = true) := Lib.hid (by rw [Ix.diffB_succ HRK.out, HD.out, show Ix.met rs k r = false from HMC.out]; rfl)
                    go_wp2
                    go_roundw
                    case rel => exact ⟨k + 1, hlt, by go_num, HDN, Tx.step HBO.out HBI.out⟩
                    case measure => simp [intOf]; omega
              · obtain rfl : k = rs.length := by omega
                have HDI := Lib.hid (Ix.dist_of HD.out)
                have HGO := Lib.hid (HG.out.below HBW.out)
                have HRO := Lib.hid (HR.out.below HBW.out)
                clear hbo
                go_wp2_with (first
                  | (go_at_call 22; go_must (refine (ix_Word_c T a5 c5 f a _ HP5.out (by have := HL5.out; omega)).mono ?_); rintro e V ⟨v6, rfl, hown6, hbv⟩; obtain ⟨F, hF⟩ : ∃ F, Cp.puts Cp.ltI (Ix.idsT (Ix.wordP f a) T) = F := ⟨_, rfl⟩; rw [hF] at hown6; obtain ⟨a6, c6, rfl, hi6, _⟩ := Ix.IA.of_own hown6 rfl; have HI6 := Lib.hid hi6; have HFE : Hid (F = Ix.word (Ix.build rs) f a) := Lib.hid (by rw [← hF, ← HM5.out, Ix.word_T]); have HBV := Lib.hid hbv; clear hown6 hi6 hbv hF)
                  | (go_at_call 17; go_must (refine (ix_Build_c rs ra rc _ HGO.out HRO.out (Nat.le_trans HF.out.len (by decide)) HF.out.mod HF.out.gd (fun r hr => by have := HF.out.id r hr; omega)).mono ?_); rintro e w5 ⟨a5, c5, T, rfl, hp5, hm5, hl5, hb5⟩; have HM5 := Lib.hid hm5; have HL5 := Lib.hid hl5; obtain ⟨p, hp⟩ : ∃ p, w5.heap.size = p := ⟨_, rfl⟩; obtain ⟨U, hU⟩ : ∃ U, w5.alloc (.cells #[.slice a5 T.length c5] 34) = U := ⟨_, rfl⟩; have HNU : Hid (Below w5.heap.size w5 U) := Lib.hid (by rw [← hU]; exact Tx.newb _ _); have HP5 := Lib.hid (hp5.below HNU.out); have HBU := Lib.hid (Tx.step hb5 HNU.out); have KX : Hid (U.heap[p]? = some (.cells #[.slice a5 T.length c5] 34 (0, 0))) := Lib.hid (by rw [← hU, ← hp]; exact heap_alloc_new w5 _); have x0 : U.cell? ⟨p, 0, none⟩ = some (.slice a5 T.length c5) := (Tx.blk KX.out).1 0; clear hp5 hm5 hl5 hb5))
                clear hU hp x0
                obtain ⟨FN, HBF⟩ := Ix.build_facts HF.out.mod HF.out.gd (fun r hr => (HF.out.id r hr).2)
                have HASC := Lib.hid FN
                have HBFF := Lib.hid HBF
                clear FN HBF
                have HOV : Hid (Below wo.heap.size wo V) := Lib.hid (Tx.step HBU.out HBV.out)
                have HX : Hid (∀ w', Below V.heap.size V w' → Ix.PsA w' a5 c5 T ∧ w'.cell? ⟨p, 0, none⟩ = some (.slice a5 T.length c5) ∧ Ix.IA w' a6 c6 F ∧ Rc.RdA w' ra rc rs ∧ G w') := Lib.hid (fun w' h9 => ⟨(HP5.out.below HBV.out).below h9, (Tx.blk (Tx.blk_later (Tx.blk_later KX.out HBV.out) h9)).1 0, HI6.out.below h9, HRO.out.below (Tx.step HOV.out h9), HGO.out.below (Tx.step HOV.out h9)⟩)
                have HEND : Hid (∀ w', Below V.heap.size V w' → Below w.heap.size w w') := Lib.hid (fun w' h9 => Tx.step HBW.out (Tx.step HOV.out h9))
                go_loopw [13, 14, 15, 16] (fun i _ _ _ wr => ∃ (k : Nat), k ≤ rs.length ∧ i = .int .i64 k ∧ Below V.heap.size V wr) (fun i _ _ _ _ => rs.length - (intOf i).toNat)
                case atStart => exact ⟨0, Nat.zero_le _, by go_num, Below.refl _ _⟩
                case round =>
                  obtain ⟨k, hk, rfl, hb3⟩ := hrel
                  obtain ⟨w3, hw3⟩ : ∃ w3, w3 = wr := ⟨_, rfl⟩
                  subst hw3
                  have HB3 := Lib.hid hb3
                  by_cases hlt : k < rs.length
                  · obtain ⟨r, hr⟩ : ∃ r, rs[k]? = some r := ⟨_, List.getElem?_eq_getElem hlt⟩
                    have hrm := List.mem_of_getElem? hr
                    obtain ⟨bb, o, fa, fc, rfl, hbl, d0, d1, d2, d3, d4, hFd⟩ := (HX.out _ hb3).2.2.2.1.get hr
                    have HFD := Lib.hid hFd
                    have HRM := Lib.hid hrm
                    have HD0 := Lib.hid d0
                    have hk2 : (k : Int) < (rs.length : Int) := by omega
                    have hk0 : (0 : Int) ≤ (k : Int) := by omega
                    clear hr hrm hFd hb3
                    go_wp2_with (go_at_call 12; (go_must (refine (ix_Terms_c r.fields fa fc r.id r.ver r.kind r.lang f _ (HX.out _ HB3.out).2.2.2.2 HFD.out (HF.out.mod r HRM.out) (HF.out.gd r HRM.out)).mono ?_); rintro e w4 ⟨v1, rfl, hown1, hb4⟩; obtain ⟨L, hL⟩ : ∃ L, Ix.terms r.fields f = L := ⟨_, rfl⟩; rw [hL] at hown1; have hLl : L.length ≤ 200000 := (by rw [← hL]; exact Ix.terms_len (HF.out.mod r HRM.out) f); obtain ⟨a1, c1, rfl, hs1⟩ := Ix.own_sla hown1; have HS1 := Lib.hid hs1; have HL := Lib.hid hL; have HB4 := Lib.hid (Tx.step HB3.out hb4); have HD4 := Lib.hid (cell_later hb4 HD0.out); clear hown1 hs1 hb4 hL))
                    clear d0 d1 d2 d3 d4
                    go_loop [15, 16] (fun h j => ∃ (m : Nat), m ≤ L.length ∧ j = .int .i64 m ∧ h = .bool (Ix.hasB L a m)) (fun _ j => L.length - (intOf j).toNat)
                    case atStart => exact ⟨0, Nat.zero_le _, by go_num, rfl⟩
                    case round =>
                      obtain ⟨m, hm, rfl, rfl⟩ := hrel
                      by_cases hmL : m < L.length
                      · obtain ⟨x, hx⟩ : ∃ x, L[m]? = some x := ⟨_, List.getElem?_eq_getElem hmL⟩
                        obtain ⟨b9, o9, rfl, hb9, g0⟩ := HS1.out.get (k := m) (x := ⟨x.toArray⟩) (by rw [List.getElem?_map, hx]; rfl)
                        have HMS := Lib.hid (Ix.hasB_succ (a := a) hx)
                        have hm2 : (m : Int) < (L.length : Int) := by omega
                        have hm0 : (0 : Int) ≤ (m : Int) := by omega
                        obtain ⟨hh, hhe⟩ : ∃ hh, Ix.hasB L a m = hh := ⟨_, rfl⟩
                        rw [hhe] at HMS ⊢
                        clear hx hhe
                        cases hh with
                        | true =>
                          go_wp2
                          go_round
                          case rel => exact ⟨m + 1, hmL, by go_num, by rw [HMS.out]; rfl⟩
                          case measure => simp [intOf]; omega
                        | false =>
                          cases hxa : (x == a) with
                          | true =>
                            rw [hxa] at HMS
                            go_wp2
                            go_round
                            case rel => exact ⟨m + 1, hmL, by go_num, by rw [HMS.out]; rfl⟩
                            case measure => simp [intOf]; omega
                          | false =>
                            rw [hxa] at HMS
                            go_wp2
                            go_round
                            case rel => exact ⟨m + 1, hmL, by go_num, by rw [HMS.out]; rfl⟩
                            case measure => simp [intOf]; omega
                      · obtain rfl : m = L.length := by omega
                        rw [Ix.hasB_all]
                        have e0 := HD4.out
                        obtain ⟨hd, hde⟩ : ∃ hd, decide (a ∈ L) = hd := ⟨_, rfl⟩
                        by_cases hid : 0 < r.id
                        · have hid2 : decide (0 < r.id) = true := decide_eq_true hid
                          have HIN : Hid (decide (r.id ∈ F) = hd) := Lib.hid (by rw [← hde, HFE.out, ← HL.out]; exact decide_eq_decide.2 (Ix.tells_has HDI.out HRM.out (by omega) HFF.out).symm)
                          rw [hde]
                          clear hde
                          have CI := lx_in_c F a6 c6 r.id w4 (HX.out _ HB4.out).2.2.1
                          rw [HIN.out] at CI
                          have HCI := Lib.hid CI
                          clear CI
                          cases hd with
                          | true =>
                            go_wp2_with (go_at_call 28; ((with_reducible refine HCI.out.mono ?_); rintro e w8 ⟨rfl, rfl⟩))
                            go_roundw
                            case rel => exact ⟨k + 1, hlt, by go_num, HB4.out⟩
                            case measure => simp [intOf]; omega
                          | false =>
                            go_wp2_with (go_at_call 28; ((with_reducible refine HCI.out.mono ?_); rintro e w8 ⟨rfl, rfl⟩))
                            go_roundw
                            case rel => exact ⟨k + 1, hlt, by go_num, HB4.out⟩
                            case measure => simp [intOf]; omega
                        · have hid2 : decide (0 < r.id) = false := decide_eq_false hid
                          rw [hde]
                          clear hde
                          go_wp2
                          go_roundw
                          case rel => exact ⟨k + 1, hlt, by go_num, HB4.out⟩
                          case measure => simp [intOf]; omega
                  · obtain rfl : k = rs.length := by omega
                    have HTB : Hid (∀ t ∈ T, t.1 ∈ Ix.build rs) := Lib.hid (fun t ht => by rw [← HM5.out]; exact List.mem_map_of_mem ht)
                    have hA : Ix.Asc (T.map (·.1)) := by rw [HM5.out]; exact HASC.out
                    have hat : ∀ t ∈ T, ∀ n ∈ t.1.at_, 0 ≤ n ∧ n ≤ 9223372036854775807 := fun t ht => (HBFF.out _ (HTB.out t ht)).1
                    have HWD : Hid (∀ t ∈ T, t.1.word.length ≤ 1000000) := Lib.hid (fun t ht => (HBFF.out _ (HTB.out t ht)).2.2)
                    have HID : Hid (∀ t ∈ T, -9223372036854775808 ≤ t.1.id ∧ t.1.id ≤ 9223372036854775807) := Lib.hid (fun t ht => (HBFF.out _ (HTB.out t ht)).2.1)
                    have HE1 : Hid (Cp.puts Cp.ltI (Ix.phrQ T f [a]) = F) := Lib.hid (by rw [Ix.phr_same hA hat _ _ (by simp), HM5.out, Ix.phrase_one Ix.build_ne, HFE.out])
                    have HE2 : Hid (∀ n ∈ Cp.puts Cp.ltI (Ix.phrQ T f [a, b]), n ∈ F ∧ n ∈ Ix.word (Ix.build rs) f b) := Lib.hid (fun n hn => by
                      rw [Ix.phr_same hA hat _ _ (by simp), HM5.out] at hn
                      rw [HFE.out]
                      exact Ix.phrase_two hn)
                    have HLL : Hid (T.length ≤ 100000000) := Lib.hid (by have := HL5.out; omega)
                    have hz1 : ∀ s ∈ [a], s.length ≤ 1000000 := fun s hs => by rw [List.mem_singleton] at hs; rw [hs]; omega
                    have hz2 : ∀ s ∈ [a, b], s.length ≤ 1000000 := fun s hs => by
                      rcases List.mem_cons.1 hs with rfl | hs
                      · omega
                      · rw [List.mem_singleton] at hs; rw [hs]; omega
                    have HZ1 := Lib.hid hz1
                    have HZ2 := Lib.hid hz2
                    obtain ⟨Y1, hY1⟩ : ∃ Y1, w3.alloc (.cells #[.string ⟨a.toArray⟩] 9) = Y1 := ⟨_, rfl⟩
                    have HNY1 : Hid (Below w3.heap.size w3 Y1) := Lib.hid (by rw [← hY1]; exact Tx.newb _ _)
                    have HSY1 : Hid (SLA Y1 (some ⟨w3.heap.size, 0, none⟩) 1 ([a].map fun x => (⟨x.toArray⟩ : ByteArray))) := Lib.hid (by rw [← hY1]; exact SLA.new (xs := [⟨a.toArray⟩]) (by rfl) (by rfl) (by simp))
                    have HBY1 := Lib.hid (Tx.step HB3.out HNY1.out)
                    have x1 := (HX.out _ HB3.out).2.1
                    have p1 : True := trivial
                    have p2 : True := trivial
                    clear hA hat hz1 hz2 hb3
                    go_wp2_with (first
                      | (go_at_call 26; have _q := p1; clear p1 _q; (go_must (refine (ix_Phrase_c T a5 c5 f [a] (some ⟨w3.heap.size, 0, none⟩) 1 _ (HX.out _ HBY1.out).1 HLL.out HSY1.out (by simp) HZ1.out HWD.out HID.out).mono ?_); rintro e y1 ⟨v7, rfl, hown7, hy1⟩; rw [HE1.out] at hown7; obtain ⟨a7, c7, rfl, hi7, _⟩ := Ix.IA.of_own hown7 rfl; have HI7 := Lib.hid hi7; have HBY := Lib.hid (Tx.step HBY1.out hy1); clear hown7 hi7 hy1))
                      | (go_at_call 21; (go_must (refine (Ints_c F F a7 a6 c7 c6 _ HI7.out (HX.out _ HBY.out).2.2.1).mono ?_); rintro e y2 ⟨rfl, hy2⟩; rw [decide_eq_true rfl]; have HBY2 := Lib.hid (Tx.step HBY.out hy2); clear hy2; obtain ⟨Y2, hY2⟩ : ∃ Y2, y2.alloc (.cells #[.string ⟨a.toArray⟩, .string ⟨b.toArray⟩] 9) = Y2 := ⟨_, rfl⟩; have HNY2 : Hid (Below y2.heap.size y2 Y2) := Lib.hid (by rw [← hY2]; exact Tx.newb _ _); have HSY2 : Hid (SLA Y2 (some ⟨y2.heap.size, 0, none⟩) 2 ([a, b].map fun x => (⟨x.toArray⟩ : ByteArray))) := Lib.hid (by rw [← hY2]; exact SLA.new (xs := [⟨a.toArray⟩, ⟨b.toArray⟩]) (by rfl) (by rfl) (by simp)); have HBY3 := Lib.hid (Tx.step HBY2.out HNY2.out); have x2 := (HX.out _ HBY2.out).2.1))
                      | (go_at_call 22; (go_must (refine (ix_Word_c T a5 c5 f b _ (HX.out _ HBY4.out).1 HLL.out).mono ?_); rintro e y4 ⟨v9, rfl, hown9, hy4⟩; obtain ⟨O, hO⟩ : ∃ O, Cp.puts Cp.ltI (Ix.idsT (Ix.wordP f b) T) = O := ⟨_, rfl⟩; rw [hO] at hown9; obtain ⟨a9, c9, rfl, hi9, _⟩ := Ix.IA.of_own hown9 rfl; have HI9 := Lib.hid hi9; have HOE : Hid (O = Ix.word (Ix.build rs) f b) := Lib.hid (by rw [← hO, ← HM5.out, Ix.word_T]); have HBY5 := Lib.hid (Tx.step HBY4.out hy4); have HI8 := Lib.hid (HI8a.out.below hy4); clear hown9 hi9 hy4 hO))
                      | (go_at_call 26; (go_must (refine (ix_Phrase_c T a5 c5 f [a, b] (some ⟨y2.heap.size, 0, none⟩) 2 _ (HX.out _ HBY3.out).1 HLL.out HSY2.out (by simp) HZ2.out HWD.out HID.out).mono ?_); rintro e y3 ⟨v8, rfl, hown8, hy3⟩; obtain ⟨P, hP⟩ : ∃ P, Cp.puts Cp.ltI (Ix.phrQ T f [a, b]) = P := ⟨_, rfl⟩; rw [hP] at hown8 HE2; obtain ⟨a8, c8, rfl, hi8, _⟩ := Ix.IA.of_own hown8 rfl; have HI8a := Lib.hid hi8; have HBY4 := Lib.hid (Tx.step HBY3.out hy3); clear hown8 hi8 hy3 hP; have x3 := (HX.out _ HBY4.out).2.1)))
                    clear hY1 hY2 x1 x2 x3
                    have hPc := HI8.out.cap
                    have hPm := HI8.out.max
                    have hFc := HI6.out.cap
                    have hFm := HI6.out.max
                    have hmx : maxLen = 9223372036854775807 := rfl
                    have HIN1 : Hid (∀ n ∈ P, Calls Tryz.prog 28 #[.slice a6 F.length c6, .int .i64 n] y4 fun e w' => e = .returned (.bool true) ∧ y4 = w') := Lib.hid (fun n hn => by
                      have h9 := lx_in_c F a6 c6 n y4 (HX.out _ HBY5.out).2.2.1
                      rw [decide_eq_true (HE2.out n hn).1] at h9
                      exact h9)
                    have HIN2 : Hid (∀ n ∈ P, Calls Tryz.prog 28 #[.slice a9 O.length c9, .int .i64 n] y4 fun e w' => e = .returned (.bool true) ∧ y4 = w') := Lib.hid (fun n hn => by
                      have h9 := lx_in_c O a9 c9 n y4 HI9.out
                      rw [decide_eq_true (by rw [HOE.out]; exact (HE2.out n hn).2)] at h9
                      exact h9)
                    go_loop [19] (fun i => ∃ (m : Nat), m ≤ P.length ∧ i = .int .i64 m) (fun i => P.length - (intOf i).toNat)
                    case atStart => exact ⟨0, Nat.zero_le _, by go_num⟩
                    case round =>
                      obtain ⟨m, hm, rfl⟩ := hrel
                      by_cases hmP : m < P.length
                      · obtain ⟨x, hx⟩ : ∃ x, P[m]? = some x := ⟨_, List.getElem?_eq_getElem hmP⟩
                        obtain ⟨b8, o8, rfl, hb8, g0⟩ := Ix.IA.cell HI8.out hx
                        have C1 := Lib.hid (HIN1.out x (List.mem_of_getElem? hx))
                        have C2 := Lib.hid (HIN2.out x (List.mem_of_getElem? hx))
                        have q1 : True := trivial
                        clear hx
                        go_wp2_with (first
                          | (go_at_call 28; have _q := q1; clear q1 _q; ((with_reducible refine C1.out.mono ?_); rintro e w8 ⟨rfl, rfl⟩))
                          | (go_at_call 28; ((with_reducible refine C2.out.mono ?_); rintro e w8 ⟨rfl, rfl⟩)))
                        go_round
                        case rel => exact ⟨m + 1, hmP, by go_num⟩
                        case measure => simp [intOf]; omega
                      · obtain rfl : m = P.length := by omega
                        clear HIN1 HIN2
                        go_wp2
                        go_loopw [20, 21, 22] (fun n _ _ w' => ∃ (k : Nat), 1 ≤ k ∧ k ≤ a.length + 1 ∧ n = .int .i64 k ∧ Below V.heap.size V w') (fun n _ _ _ => a.length + 1 - (intOf n).toNat)
                        case atStart => exact ⟨1, Nat.le_refl _, by omega, by go_num, HBY5.out⟩
                        case round =>
                          obtain ⟨k, hk1, hk2, rfl, hb6⟩ := hrel
                          obtain ⟨w6, hw6⟩ : ∃ w6, w6 = wr := ⟨_, rfl⟩
                          subst hw6
                          have HB6 := Lib.hid hb6
                          have x6 := (HX.out _ hb6).2.1
                          by_cases hka : k ≤ a.length
                          · have hka2 : (k : Int) ≤ (a.length : Int) := by omega
                            have hk0 : (0 : Int) ≤ (k : Int) := by omega
                            have HEX : Hid ((⟨a.toArray⟩ : ByteArray).extract 0 k = ⟨(a.take k).toArray⟩) := Lib.hid (by
                              have h9 := Ix.ext_eq ⟨a.toArray⟩ 0 k
                              simpa using h9.symm)
                            have HPX : Hid (∀ n ∈ F, n ∈ Cp.puts Cp.ltI (Ix.idsT (Ix.prefP f (a.take k)) T)) := Lib.hid (fun n hn => by
                              rw [← Ix.prefix_T, HM5.out]
                              exact Ix.prefix_has (by rw [← HFE.out]; exact hn) hk1 hka)
                            clear hb6
                            go_wp2
                            go_still_tail 5, (by kernel_rfl)
                            change wpList _ _ _ _ _ w6.drew
                            have hbq := (Below.refl w6.heap.size w6).drew
                            generalize w6.drew = w7 at hbq ⊢
                            have HB7 := Lib.hid (Tx.step HB6.out hbq)
                            go_wp2_with (go_at_call 24; rw [HEX.out]; (go_must (refine (ix_Prefix_c T a5 c5 f (a.take k) _ (HX.out _ HB7.out).1 HLL.out).mono ?_); rintro e w8 ⟨v10, rfl, hown10, hb8⟩; obtain ⟨Q, hQ⟩ : ∃ Q, Cp.puts Cp.ltI (Ix.idsT (Ix.prefP f (a.take k)) T) = Q := ⟨_, rfl⟩; rw [hQ] at hown10 HPX; obtain ⟨a10, c10, rfl, hi10, _⟩ := Ix.IA.of_own hown10 rfl; have HI10 := Lib.hid hi10; have HB8 := Lib.hid (Tx.step HB7.out hb8); clear hown10 hi10 hb8 hQ))
                            have HFW := Lib.hid (HX.out _ HB8.out).2.2.1
                            have HIN3 : Hid (∀ n ∈ F, Calls Tryz.prog 28 #[.slice a10 Q.length c10, .int .i64 n] w8 fun e w' => e = .returned (.bool true) ∧ w8 = w') := Lib.hid (fun n hn => by
                              have h9 := lx_in_c Q a10 c10 n w8 HI10.out
                              rw [decide_eq_true (HPX.out n hn)] at h9
                              exact h9)
                            go_loop [22] (fun i => ∃ (m : Nat), m ≤ F.length ∧ i = .int .i64 m) (fun i => F.length - (intOf i).toNat)
                            case atStart => exact ⟨0, Nat.zero_le _, by go_num⟩
                            case round =>
                              obtain ⟨m, hm, rfl⟩ := hrel
                              by_cases hmF : m < F.length
                              · obtain ⟨x, hx⟩ : ∃ x, F[m]? = some x := ⟨_, List.getElem?_eq_getElem hmF⟩
                                obtain ⟨b8, o8, rfl, hb8, g0⟩ := HFW.out.cell hx
                                have C1 := Lib.hid (HIN3.out x (List.mem_of_getElem? hx))
                                clear hx
                                go_wp2_with (go_at_call 28; ((with_reducible refine C1.out.mono ?_); rintro e w9 ⟨rfl, rfl⟩))
                                go_round
                                case rel => exact ⟨m + 1, hmF, by go_num⟩
                                case measure => simp [intOf]; omega
                              · obtain rfl : m = F.length := by omega
                                go_wp2
                                go_roundw
                                case rel => exact ⟨k + 1, by omega, by omega, by go_num, HB8.out⟩
                                case measure => simp [intOf]; omega
                          · have hka2 : (a.length : Int) < (k : Int) := by omega
                            have hka3 : ¬ (k : Int) ≤ (a.length : Int) := by omega
                            go_wp2
                            go_ret
                            exact ⟨rfl, HEND.out _ HB6.out⟩
      · have qb1 : (100 : Int) < (b.length : Int) := by omega
        have qb2 : decide ((100 : Int) < (b.length : Int)) = true := decide_eq_true qb1
        go_enter Tryz.func6, Tryz.ntmps6
        go_wp2_with (first
          | (go_at_call 9; refine (lx_alive_c _ HG.out).mono ?_; rintro e w1 ⟨rfl, hb1⟩)
          | (go_at_call 14; refine (lx_few_c rs ra rc _ (HR.out.below hb1) HZ.out).mono ?_; rintro e w2 ⟨rfl, hb2⟩; rw [HV1.out]; have HB2 := Lib.hid (Tx.step hb1 hb2)))
        go_ret
        exact ⟨rfl, HB2.out⟩
    · have qa1 : (100 : Int) < (a.length : Int) := by omega
      have qa2 : decide ((100 : Int) < (a.length : Int)) = true := decide_eq_true qa1
      go_enter Tryz.func6, Tryz.ntmps6
      go_wp2_with (first
        | (go_at_call 9; refine (lx_alive_c _ HG.out).mono ?_; rintro e w1 ⟨rfl, hb1⟩)
        | (go_at_call 14; refine (lx_few_c rs ra rc _ (HR.out.below hb1) HZ.out).mono ?_; rintro e w2 ⟨rfl, hb2⟩; rw [HV1.out]; have HB2 := Lib.hid (Tx.step hb1 hb2)))
      go_ret
      exact ⟨rfl, HB2.out⟩

theorem tells_by (rs : List Rc.Rd) (ra : Option Addr) (rc : Nat) (f : Int) (a b : ByteArray) (w : World) (hG : G w) (hR : Rc.RdA w ra rc rs) (hz : ∀ r ∈ rs, ∀ f ∈ r.fields, ∀ s ∈ f.subs, s.2.size ≤ 140737488351232) :
    Calls Tryz.prog 6 #[.slice ra rs.length rc, .int .i64 f, .string a, .string b] w fun e w' => e = .returned (.bool true) ∧ Below w.heap.size w w' := by
  have h9 := tells_law rs ra rc f a.data.toList b.data.toList w hG hR hz
  rw [show (⟨a.data.toList.toArray⟩ : ByteArray) = a by simp, show (⟨b.data.toList.toArray⟩ : ByteArray) = b by simp] at h9
  exact h9
end Go.Proofs.YtcjalpegffldaaaGreatDoor
