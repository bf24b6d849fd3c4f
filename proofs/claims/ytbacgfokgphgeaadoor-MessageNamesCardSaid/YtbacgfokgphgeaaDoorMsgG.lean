/- Layer 41: the reference's Parse: what the call returns. -/
import Derived.Test.YtbacgfokgphgeaaDoorMsgF
import Derived.Deep.AppendLies
namespace Go.Proofs.YtbacgfokgphgeaaDoor
open Go.RowKit
set_option maxRecDepth 100000

theorem info_int : (Tryd.prog.info? 3).map (fun i => (i.zero, i.size, i.bytes)) = some (some (.int .i64 0), 1, 8) := by kernel_rfl

theorem Tx.blk {w : World} {g : Nat} {cs : Array Value} {t : TypeId} (h : w.heap[g]? = some (.cells cs t (0, 0))) : (∀ i, w.cell? ⟨g, i, none⟩ = cs[i]?) ∧ (∀ i, w.frozen? ⟨g, i, none⟩ = false) ∧ g < w.heap.size :=
  ⟨fun i => cell_of_row w g i cs t (0, 0) h, fun i => by simp [World.frozen?, h], (Array.getElem?_eq_some_iff.1 h).1⟩
theorem Tx.later {g : Nat} {w w' : World} (hb : Below w.heap.size w w') (h : g < w.heap.size) : (∀ i, w'.cell? ⟨g, i, none⟩ = w.cell? ⟨g, i, none⟩) ∧ (∀ i, w'.frozen? ⟨g, i, none⟩ = w.frozen? ⟨g, i, none⟩) :=
  ⟨fun i => hb.cell (p := ⟨g, i, none⟩) h, fun i => hb.frozen (p := ⟨g, i, none⟩) h⟩
theorem Tx.blk_later {w w' : World} {g : Nat} {o : Obj} (h : w.heap[g]? = some o) (hb : Below w.heap.size w w') : w'.heap[g]? = some o := (hb.block g (Array.getElem?_eq_some_iff.1 h).1).trans h

theorem Tx.set8 {B g : Nat} {w wr : World} (h : Below B w wr) (hg : B ≤ g) (v0 v1 v2 v3 v4 v5 v6 v7 : Value) :
    Below B w ((((((((wr.setCell ⟨g, 0, none⟩ v0).setCell ⟨g, 1, none⟩ v1).setCell ⟨g, 2, none⟩ v2).setCell ⟨g, 3, none⟩ v3).setCell ⟨g, 4, none⟩ v4).setCell ⟨g, 5, none⟩ v5).setCell ⟨g, 6, none⟩ v6).setCell ⟨g, 7, none⟩ v7) :=
  (((((((h.setCell hg _).setCell hg _).setCell hg _).setCell hg _).setCell hg _).setCell hg _).setCell hg _).setCell hg _

theorem Tx.newd (w : World) (o : Obj) : Below w.heap.size w (w.alloc o).drew := ((Below.refl _ _).alloc (Nat.le_refl _) _).drew
theorem Tx.newcell (w : World) (cs : Array Value) (t : TypeId) (i : Nat) : (w.alloc (.cells cs t)).drew.cell? ⟨w.heap.size, i, none⟩ = cs[i]? := cell_of_row _ _ i cs t (0, 0) (heap_alloc_new w _)

theorem Mg.cutB_len (l : List UInt8) : (Mg.cutB l).length ≤ l.length ∧ (Mg.cutA l).length ≤ l.length := by
  unfold Mg.cutB Mg.cutA
  cases hc : Sp.cut 32 l with
  | none => simp
  | some p =>
    obtain ⟨a, b⟩ := p
    have := Sp.cut_len hc
    simp only
    omega

/-- A block of eight cells: a message. -/
def Mg.cells (m : Mg.Msg) : Array Value := #[.int .i64 m.f, .int .i64 m.t, .int .i64 m.r, .int .i64 m.s, .int .i64 m.k, .int .i64 m.rc, .int .i64 m.d, .string ⟨m.n.toArray⟩]

set_option maxHeartbeats 800000 in
theorem parse_r (s : ByteArray) (w : World) (hs : s.size ≤ 1000000000) :
    Calls Tryd.prog 15 #[.string s] w fun e w' => e = .returned (.tuple #[.agg (Mg.cells (Mg.parse s.data.toList).2), .int .i64 (Mg.parse s.data.toList).1]) ∧ Below w.heap.size w w' := by
  obtain ⟨i0, hi0, hz0, hz1, hz2⟩ := info_parts info_int
  obtain ⟨ws, hws⟩ : ∃ ws, Sp.splitW 32 7 s.data.toList = ws := ⟨_, rfl⟩
  have hst := Mg.Inv.start s.data.toList
  rw [hws] at hst
  have HW := Lib.hid hws; clear hws
  have HL := Lib.hid (Lib.size_eq s)
  go_enter Tryd.func15, Tryd.ntmps15
  go_wp2
  go_loopw [4, 5, 6, 7, 8] (fun v kd rs mr iv wr => ∃ (i n : Nat) (rest : List UInt8) (more : Bool) (kv : Int), i ≤ 7 ∧ iv = .int .i64 i ∧ kd = .int .i64 kv ∧ Hid (kv = if i ≤ 4 then 0 else Mg.kindOf (ws.getD 4 [])) ∧ rs = .string ⟨rest.toArray⟩ ∧ mr = .bool more ∧ rest.length ≤ 1000000000 ∧ Mg.Inv ws i rest more ∧ Mg.okTo ws i ∧ n = (Mg.nsOf ws i).length ∧ wr.ownsRow (w.heap.size + 1) 3 1 v n ((Mg.nsOf ws i).map (Value.int .i64)) ∧ wr.heap[w.heap.size]? = some (.cells #[.int .i64 0, .int .i64 0, .int .i64 0, .int .i64 0, .int .i64 0, .int .i64 0, .int .i64 0, .string ⟨#[]⟩] 23 (0, 0)) ∧ Below w.heap.size w wr) (fun _ _ _ _ iv _ => 7 - (intOf iv).toNat)
  case atStart =>
    refine ⟨0, 0, s.data.toList, true, 0, by omega, rfl, rfl, rfl, by rw [← Tx.mk_list], rfl, by rw [← HL.out]; exact hs, hst, fun j hj => absurd hj (by omega), rfl, ?_, ?_, (Tx.newb _ _).trans ((Tx.newb _ _).mono (by simp))⟩
    · have h := World.ownsRow_lit (base := w.heap.size + 1) (e := 3) (size := 1) (w.alloc (.cells #[.int .i64 0, .int .i64 0, .int .i64 0, .int .i64 0, .int .i64 0, .int .i64 0, .int .i64 0, .string ⟨#[]⟩] 23)) #[] 0 (by simp) (by unfold maxLen; omega) rfl
      simpa [Mg.nsOf] using h
    · rw [Below.heap_alloc _ _ _ (by simp)]
      exact heap_alloc_new _ _
  case round =>
    obtain ⟨i, n, rest, more, kv, hi, rfl, rfl, hkv, rfl, rfl, hrl, hinv, hok, hn, hown, hblk, hb⟩ := hrel
    obtain ⟨hc, hf, hlt⟩ := Tx.blk hblk
    have hB := Lib.hid hblk; clear hblk
    have HN := Lib.hid hn; clear hn
    by_cases h7 : i < 7
    · cases more with
      | false =>
        have hp := Mg.parse_bad (l := s.data.toList) (by rw [HW.out]; exact hinv.bad_short h7)
        have HP := Lib.hid hp; clear hp
        clear hown
        go_wp2
        refine bodyPost_ret (v := .tuple #[.agg #[.int .i64 0, .int .i64 0, .int .i64 0, .int .i64 0, .int .i64 0, .int .i64 0, .int .i64 0, .string ⟨#[]⟩], .int .i64 3]) (by simp [results, Tryd.results15, go_sem, hc]) rfl ⟨by rw [HP.out]; rfl, Tx.set8 hb (Nat.le_refl _) _ _ _ _ _ _ _ _⟩
      | true =>
        obtain ⟨hwi, hnx⟩ := hinv.next h7
        have HWI := Lib.hid hwi; clear hwi
        by_cases h4 : i = 4
        · subst h4
          go_wp2_with (first
            | (go_at_call 29; go_must (refine (Cut_c _ _ (by rw [Tx.size_mk]; omega)).mono ?_; rintro e w1 ⟨rfl, hb1⟩))
            | (go_at_call 30; go_must (refine (kindOf_c _ _).mono ?_; rintro e w2 ⟨rfl, hb2⟩)))
          have hb3 := Tx.step hb1 hb2
          have hcl := (Mg.cutB_len rest).1
          go_roundw
          case rel =>
            exact ⟨5, n, Mg.cutB rest, Mg.cutM rest, Mg.kindOf (Mg.cutA rest), by omega, rfl, rfl, Lib.hid (by rw [HWI.out]; rfl), rfl, rfl, by omega, hnx, hok.next (fun h => absurd rfl h), HN.out, own_below hown hb3, Tx.blk_later hB.out hb3, hb.trans (hb3.mono hb.size)⟩
          case measure => simp [intOf]
        · have h4z : ((i : Int) == 4) = false := by
            rw [beq_eq_false_iff_ne]
            omega
          have hcl := Mg.cutB_len rest
          cases hnum : (Nm.num (Mg.cutA rest)) with
          | none =>
            have hp := Mg.parse_bad (l := s.data.toList) (by rw [HW.out]; exact Mg.bad_ok h7 h4 (by rw [(Mg.ok_of _ HWI.out).1, hnum]; rfl))
            have HP := Lib.hid hp; clear hp
            have HU := Lib.hid hnum; clear hnum
            clear hown hB hnx
            go_wp2_with (first
              | (go_at_call 29; go_must (refine (Cut_c _ _ (by rw [Tx.size_mk]; omega)).mono ?_; rintro e w1 ⟨rfl, hb1⟩))
              | (go_at_call 31; go_must (refine (r11_Number_c _ _).mono ?_; rintro e w2 ⟨rfl, hb2⟩; rw [show (⟨(Mg.cutA rest).toArray⟩ : ByteArray).data.toList = Mg.cutA rest from rfl, HU.out]; have hb3 := Tx.step hb1 hb2; obtain ⟨hc3, hf3⟩ := Tx.later hb3 hlt)))
            refine bodyPost_ret (v := .tuple #[.agg #[.int .i64 0, .int .i64 0, .int .i64 0, .int .i64 0, .int .i64 0, .int .i64 0, .int .i64 0, .string ⟨#[]⟩], .int .i64 3]) (by simp [results, Tryd.results15, go_sem, hc, hc3]) rfl ⟨by rw [HP.out]; rfl, Tx.set8 (hb.trans (hb3.mono hb.size)) (Nat.le_refl _) _ _ _ _ _ _ _ _⟩
          | some x =>
            obtain ⟨hk1, hk2⟩ := Mg.ok_of _ HWI.out
            rw [hnum] at hk1 hk2
            have HU := Lib.hid hnum; clear hnum
            have hx : (Mg.nsOf ws i).length ≤ 7 := by have := Mg.nsOf_len ws i; omega
            have hnn := HN.out
            have hn7 : n ≤ 7 := by omega
            have hns : Mg.nsOf ws (i + 1) = Mg.nsOf ws i ++ [(x : Int)] := by
              rw [Mg.nsOf, if_neg h4, hk2]
              rfl
            have HS := Lib.hid hns; clear hns hnn hk2
            have HK := Lib.hid hk1; clear hk1
            go_wp2_with (first
              | (go_at_call 29; go_must (refine (Cut_c _ _ (by rw [Tx.size_mk]; omega)).mono ?_; rintro e w1 ⟨rfl, hb1⟩))
              | (go_at_call 31; go_must (refine (r11_Number_c _ _).mono ?_; rintro e w2 ⟨rfl, hb2⟩; rw [show (⟨(Mg.cutA rest).toArray⟩ : ByteArray).data.toList = Mg.cutA rest from rfl, HU.out]; have hb3 := Tx.step hb1 hb2))
              | (at_builtin; go_must (refine wpList_append_own _ rfl (.tmp 41) (.tmp 43) 46 rfl (w.heap.size + 1) 3 i0 (.int .i64 0) 1 8 Tryd.underlying46 hi0 hz0 hz1 hz2 rfl (by decide) u4 n _ rfl ((own_below hown hb3).alloc _) ⟨_, 0, none⟩ 1 1 [.int .i64 x] rfl rfl (Tx.cell_one_at _ _ rfl _ _) (by simp [Value.oneCell']) (by unfold maxLen; omega) (by omega) (by have := hb3.size; simp; omega) ?_); intro v' w3 hown3 hg3 hnil3))
            have hne : some w.heap.size ≠ u4.ownBlock := fun e => by have := hown.lt w.heap.size e.symm; omega
            have hb4 : Below w.heap.size w (w2.alloc (.cells #[.int .i64 x] 3)) := (hb.trans (hb3.mono hb.size)).alloc (by have := hb.size; have := hb3.size; omega) _
            have hb5 : Below w.heap.size w w3 := hb4.grown hg3 (by have := hb.size; have := hb3.size; simp; omega) (fun k hk => by have := hown.lt k hk; omega)
            have hbl : w3.heap[w.heap.size]? = some (.cells #[.int .i64 0, .int .i64 0, .int .i64 0, .int .i64 0, .int .i64 0, .int .i64 0, .int .i64 0, .string ⟨#[]⟩] 23 (0, 0)) :=
              (hg3.block _ (by have := hb3.size; simp; omega) hne).trans ((Below.heap_alloc _ _ _ (by have := hb3.size; omega)).trans (Tx.blk_later hB.out hb3))
            clear hg3 hnil3 hown
            go_roundw
            case rel =>
              refine ⟨i + 1, n + 1, Mg.cutB rest, Mg.cutM rest, kv, by omega, by go_num, rfl, Lib.hid ?_, rfl, rfl, by omega, hnx, hok.next (fun _ => HK.out), ?_, ?_, hbl, hb5⟩
              · rw [hkv.out]
                by_cases h5 : i ≤ 4
                · rw [if_pos h5, if_pos (by omega)]
                · rw [if_neg h5, if_neg (by omega)]
              · rw [HS.out, List.length_append, ← HN.out]
                rfl
              · rw [HS.out, List.map_append]
                exact hown3
            case measure => simp [intOf]; omega
    · obtain rfl : i = 7 := by omega
      obtain ⟨hw7, hbad⟩ := hinv.bad_iff hok
      have hkk := hkv.out
      rw [if_neg (by omega)] at hkk
      have hrg := Mg.kindOf_range (ws.getD 4 [])
      rw [← hkk] at hbad hrg
      have HKK := Lib.hid hkk; clear hkk
      have HW7 := Lib.hid hw7; clear hw7
      have H6 : Hid (n = 6) := Lib.hid (by rw [HN.out]; rfl)
      by_cases hbd : Mg.bad ws
      · have hp := Mg.parse_bad (l := s.data.toList) (by rw [HW.out]; exact hbd)
        have HP := Lib.hid hp; clear hp
        have HBD := Lib.hid (hbad.1 hbd); clear hbd hbad
        clear hown hok hinv
        by_cases hk0 : kv = 0
        · have hkz : (kv == 0) = true := by simpa using hk0
          clear hk0
          go_wp2
          refine bodyPost_ret (v := .tuple #[.agg #[.int .i64 0, .int .i64 0, .int .i64 0, .int .i64 0, .int .i64 0, .int .i64 0, .int .i64 0, .string ⟨#[]⟩], .int .i64 3]) (by simp [results, Tryd.results15, go_sem, hc]) rfl ⟨by rw [HP.out]; rfl, Tx.set8 hb (Nat.le_refl _) _ _ _ _ _ _ _ _⟩
        · have hkz : (kv == 0) = false := by simpa using hk0
          by_cases hmr : more = true ∧ rest = []
          · obtain ⟨rfl, rfl⟩ := hmr
            clear hk0
            go_wp2
            refine bodyPost_ret (v := .tuple #[.agg #[.int .i64 0, .int .i64 0, .int .i64 0, .int .i64 0, .int .i64 0, .int .i64 0, .int .i64 0, .string ⟨#[]⟩], .int .i64 3]) (by simp [results, Tryd.results15, go_sem, hc]) rfl ⟨by rw [HP.out]; rfl, Tx.set8 hb (Nat.le_refl _) _ _ _ _ _ _ _ _⟩
          · have hnb : Mg.noteB rest = false := by
              rcases HBD.out with h | h | h
              · exact absurd h hk0
              · exact absurd h hmr
              · exact h
            have HNB := Lib.hid hnb; clear hnb hk0
            cases more <;> cases rest <;> first | exact absurd ⟨rfl, rfl⟩ hmr | skip
            all_goals
              clear hmr
              go_wp2_with (go_at_call 22; go_must (refine (note_r _ _ (by rw [Tx.size_mk]; omega)).mono ?_; rintro e w2 ⟨rfl, hb3⟩; rw [HNB.out]; obtain ⟨hc3, hf3⟩ := Tx.later hb3 hlt))
              refine bodyPost_ret (v := .tuple #[.agg #[.int .i64 0, .int .i64 0, .int .i64 0, .int .i64 0, .int .i64 0, .int .i64 0, .int .i64 0, .string ⟨#[]⟩], .int .i64 3]) (by simp [results, Tryd.results15, go_sem, hc, hc3]) rfl ⟨by rw [HP.out]; rfl, Tx.set8 (hb.trans (hb3.mono hb.size)) (Nat.le_refl _) _ _ _ _ _ _ _ _⟩
      · have hnb : kv ≠ 0 ∧ ¬ (more = true ∧ rest = []) ∧ Mg.noteB rest = true := by
          refine ⟨fun h => hbd (hbad.2 (.inl h)), fun h => hbd (hbad.2 (.inr (.inl h))), ?_⟩
          cases h : Mg.noteB rest with
          | true => rfl
          | false => exact absurd (hbad.2 (.inr (.inr h))) hbd
        obtain ⟨hk0, hmr, hnote⟩ := hnb
        have hkz : (kv == 0) = false := by simpa using hk0
        have HBD := Lib.hid hbd
        have HNB := Lib.hid hnote; clear hnote hk0 hbd hbad
        obtain ⟨g, cap, hu4, hg1, hg2⟩ := hown.form (by rw [H6.out]; omega)
        rw [H6.out] at hu4 hown
        subst hu4
        have e0 := hown.cellAt 0 (by omega)
        have e1 := hown.cellAt 1 (by omega)
        have e2 := hown.cellAt 2 (by omega)
        have e3 := hown.cellAt 3 (by omega)
        have e4 := hown.cellAt 4 (by omega)
        have e5 := hown.cellAt 5 (by omega)
        simp only [Mg.nsOf_7, List.map_cons, List.map_nil] at e0 e1 e2 e3 e4 e5
        replace e0 : wr.cell? ⟨g, 0, none⟩ = some (.int .i64 (Mg.N ws 0)) := e0
        replace e1 : wr.cell? ⟨g, 1, none⟩ = some (.int .i64 (Mg.N ws 1)) := e1
        replace e2 : wr.cell? ⟨g, 2, none⟩ = some (.int .i64 (Mg.N ws 2)) := e2
        replace e3 : wr.cell? ⟨g, 3, none⟩ = some (.int .i64 (Mg.N ws 3)) := e3
        replace e4 : wr.cell? ⟨g, 4, none⟩ = some (.int .i64 (Mg.N ws 5)) := e4
        replace e5 : wr.cell? ⟨g, 5, none⟩ = some (.int .i64 (Mg.N ws 6)) := e5
        clear hown hok hinv
        cases more <;> cases rest <;> first | exact absurd ⟨rfl, rfl⟩ hmr | skip
        all_goals
          clear hmr
          go_wp2_with (go_at_call 22; go_must (refine (note_r _ _ (by rw [Tx.size_mk]; omega)).mono ?_; rintro e w2 ⟨rfl, hb3⟩; rw [HNB.out]; have d0 := cell_later hb3 e0; have d1 := cell_later hb3 e1; have d2 := cell_later hb3 e2; have d3 := cell_later hb3 e3; have d4 := cell_later hb3 e4; have d5 := cell_later hb3 e5; obtain ⟨hc3, hf3⟩ := Tx.later hb3 hlt))
          have n0 := World.new_ne w2 _ d0
          clear e0 e1 e2 e3 e4 e5
          go_region_held3 (fun w' => w'.cell? ⟨g, 0, none⟩ = some (.int .i64 (Mg.N ws 0)) ∧ w'.cell? ⟨g, 1, none⟩ = some (.int .i64 (Mg.N ws 1)) ∧ w'.cell? ⟨g, 2, none⟩ = some (.int .i64 (Mg.N ws 2)) ∧ w'.cell? ⟨g, 3, none⟩ = some (.int .i64 (Mg.N ws 3)) ∧ w'.cell? ⟨g, 4, none⟩ = some (.int .i64 (Mg.N ws 5)) ∧ w'.cell? ⟨g, 5, none⟩ = some (.int .i64 (Mg.N ws 6))) (go_keep) (fail)
          clear d0 d1 d2 d3 d4 d5 n0
          obtain ⟨R, hR⟩ : ∃ R, Mg.right (Mg.N ws 0) (Mg.N ws 1) (Mg.N ws 2) (Mg.N ws 3) kv (Mg.N ws 5) (Mg.N ws 6) (ws.getD 7 []) = R := ⟨_, rfl⟩
          have hRM : Mg.rightM (Mg.mOf ws) = R := by rw [← hR, HKK.out]; rfl
          rw [HW7.out] at hR
          have HR := Lib.hid hR; clear hR
          by_cases hR0 : R = 0
          · have hp : Mg.parse s.data.toList = (0, Mg.mOf ws) := by
              unfold Mg.parse
              rw [HW.out, if_neg HBD.out, hRM, if_pos hR0]
            have HM : Hid (Mg.cells (Mg.mOf ws) = #[.int .i64 (Mg.N ws 0), .int .i64 (Mg.N ws 1), .int .i64 (Mg.N ws 2), .int .i64 (Mg.N ws 3), .int .i64 kv, .int .i64 (Mg.N ws 5), .int .i64 (Mg.N ws 6), .string ⟨(ws.getD 7 []).toArray⟩]) := Lib.hid (by rw [HKK.out]; rfl)
            have HP := Lib.hid hp; clear hp hRM
            subst hR0
            go_wp2_with (go_at_call 10; go_must (refine (right_r _ _ _ _ _ _ _ _ _ (by rw [Tx.size_mk]; omega)).mono ?_; rintro e w4 ⟨rfl, hb4⟩; rw [HR.out]; have hb5 := Tx.step (Tx.step hb3 (Tx.newd w2 _)) hb4; obtain ⟨hc5, hf5⟩ := Tx.later hb5 hlt; have hm5 := fun i => (hb4.cell (p := ⟨w2.heap.size, i, none⟩) (by simp)).trans (Tx.newcell w2 _ _ i); have hb6 := hb.trans (hb5.mono hb.size)))
            refine bodyPost_ret (v := .tuple #[.agg #[.int .i64 (Mg.N ws 0), .int .i64 (Mg.N ws 1), .int .i64 (Mg.N ws 2), .int .i64 (Mg.N ws 3), .int .i64 kv, .int .i64 (Mg.N ws 5), .int .i64 (Mg.N ws 6), .string _], .int .i64 0]) (by simp [results, Tryd.results15, go_sem, hc, hc5]; rfl) rfl ⟨by rw [HP.out, HM.out, HW7.out], Tx.set8 hb6 (Nat.le_refl _) _ _ _ _ _ _ _ _⟩
          · have hp : Mg.parse s.data.toList = (R, Mg.zero) := by
              unfold Mg.parse
              rw [HW.out, if_neg HBD.out, hRM, if_neg hR0]
            have HP := Lib.hid hp; clear hp hRM
            have hRz : (R != 0) = true := by simpa using hR0
            clear hR0
            go_wp2_with (go_at_call 10; go_must (refine (right_r _ _ _ _ _ _ _ _ _ (by rw [Tx.size_mk]; omega)).mono ?_; rintro e w4 ⟨rfl, hb4⟩; rw [HR.out]; have hb5 := Tx.step (Tx.step hb3 (Tx.newd w2 _)) hb4; obtain ⟨hc5, hf5⟩ := Tx.later hb5 hlt; have hm5 := fun i => (hb4.cell (p := ⟨w2.heap.size, i, none⟩) (by simp)).trans (Tx.newcell w2 _ _ i); have hb6 := hb.trans (hb5.mono hb.size)))
            refine bodyPost_ret (v := .tuple #[.agg #[.int .i64 0, .int .i64 0, .int .i64 0, .int .i64 0, .int .i64 0, .int .i64 0, .int .i64 0, .string ⟨#[]⟩], .int .i64 R]) (by simp [results, Tryd.results15, go_sem, hc, hc5]) rfl ⟨by rw [HP.out]; rfl, Tx.set8 hb6 (Nat.le_refl _) _ _ _ _ _ _ _ _⟩
end Go.Proofs.YtbacgfokgphgeaaDoor
