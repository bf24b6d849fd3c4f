/- The program's Phrase: what the call returns. -/
import Derived.Test.YtcjalpegffldaaaGreatDoorJo
import Derived.Test.YtcjalpegffldaaaGreatDoorJp
import Derived.Test.YtcjalpegffldaaaGreatDoorJc
import Derived.WalkLawsBesides
import Derived.Shelf.SlicesQ.IndexFunc
import Derived.Laws.IdiomCopy
namespace Go.Proofs.YtcjalpegffldaaaGreatDoor
open Go.RowKit
set_option maxRecDepth 100000

namespace Ix
open Rc
/-- Where the first loop stands. -/
def PlR (M k : Nat) (T : List PT) (f : Int) (w : World) : Prop := ∃ g, PlS w M k k T f (ofB (T.take k) f) g
/-- Where the second one stands. -/
def PhR (M r n B m : Nat) (g : Int → Option Nat) (PH : (Lit → Bool) → List Int → Prop) (v : Value) (w : World) : Prop := ∃ (left : Lit → Bool) (cnt : Nat) (L : List Int), Vm.Rng 3 w M r n (gF g) left cnt ∧ w.ownsRow B 3 1 v L.length (L.map (Value.int .i64)) ∧ PH left L ∧ L.length + cnt ≤ m
theorem PlS.mono {w : World} {M k m m' : Nat} {T : List PT} {f : Int} {S : Int → Prop} {g : Int → Option Nat} (h : PlS w M k m T f S g) (hm : m ≤ m') : PlS w M k m' T f S g := ⟨h.outer.mono hm, h.ids, h.inner, h.sep⟩
theorem nkeyOf {x : Int} (hw : (Lit.int .i64 x).wf = true) : keyOf Tryz.prog 3 (.int .i64 x) = some (.int .i64 x) := Maps.keyOf_int_mk Tryz.underlying3 hw
theorem gF_get {g : Int → Option Nat} {x : Int} {v : Value} (h : gF g (.int .i64 x) = some v) : ∃ b, g x = some b ∧ v = .map (some b) := by
  rw [gF_int] at h
  cases hg : g x with
  | none => rw [hg] at h; cases h
  | some b => rw [hg] at h; injection h with h; exact ⟨b, rfl, h.symm⟩
/-- The records found so far. -/
structure PhS (g : Int → Option Nat) (T : List PT) (f : Int) (ws : List By) (left : Lit → Bool) (L : List Int) : Prop where
  nd : L.Nodup
  mem : ∀ z, z ∈ L ↔ (g z).isSome = true ∧ left (.int .i64 z) = false ∧ hits T f ws z = true
theorem PhS.start (g : Int → Option Nat) (T : List PT) (f : Int) (ws : List By) : PhS g T f ws (fun kl => (gF g kl).isSome) [] := by
  refine ⟨List.nodup_nil, fun z => ⟨(fun h => by cases h), fun ⟨h1, h2, _⟩ => ?_⟩⟩
  have : (gF g (.int .i64 z)).isSome = (g z).isSome := by unfold gF; simp
  rw [this, h1] at h2
  cases h2
theorem strike (left : Lit → Bool) (x z : Int) : (left (.int .i64 z) && !(Lit.int .i64 z).sameKey (.int .i64 x)) = false ↔ left (.int .i64 z) = false ∨ z = x := by
  have : (Lit.int .i64 z).sameKey (.int .i64 x) = decide (z = x) := by
    rw [Bool.eq_iff_iff]
    simp [Lit.sameKey]
  rw [this]
  by_cases h : z = x <;> simp [h]
theorem PhS.add {g : Int → Option Nat} {T : List PT} {f : Int} {ws : List By} {left : Lit → Bool} {L : List Int} (h : PhS g T f ws left L) {x : Int} (hx : (g x).isSome = true) (hl : left (.int .i64 x) = true) (hh : hits T f ws x = true) : PhS g T f ws (fun z => left z && !z.sameKey (.int .i64 x)) (L ++ [x]) := by
  refine ⟨List.nodup_append.2 ⟨h.nd, by simp, fun a ha b hb => ?_⟩, fun z => ?_⟩
  · rw [List.mem_singleton] at hb
    rw [hb]
    intro e
    subst e
    have := ((h.mem a).1 ha).2.1
    rw [hl] at this
    cases this
  · simp only [List.mem_append, List.mem_singleton, strike]
    constructor
    · rintro (h1 | rfl)
      · have h2 := (h.mem z).1 h1
        exact ⟨h2.1, .inl h2.2.1, h2.2.2⟩
      · exact ⟨hx, .inr rfl, hh⟩
    · rintro ⟨h1, h2 | h2, h3⟩
      · exact .inl ((h.mem z).2 ⟨h1, h2, h3⟩)
      · exact .inr h2
theorem PhS.pass {g : Int → Option Nat} {T : List PT} {f : Int} {ws : List By} {left : Lit → Bool} {L : List Int} (h : PhS g T f ws left L) {x : Int} (hh : hits T f ws x = false) : PhS g T f ws (fun z => left z && !z.sameKey (.int .i64 x)) L := by
  refine ⟨h.nd, fun z => ?_⟩
  simp only [strike]
  constructor
  · intro h1
    have h2 := (h.mem z).1 h1
    exact ⟨h2.1, .inl h2.2.1, h2.2.2⟩
  · rintro ⟨h1, h2 | h2, h3⟩
    · exact (h.mem z).2 ⟨h1, h2, h3⟩
    · rw [h2, hh] at h3; cases h3
theorem PhS.done {g : Int → Option Nat} {T : List PT} {f : Int} {ws : List By} {left : Lit → Bool} {L : List Int} (h : PhS g T f ws left L) (hg : ∀ x, (g x).isSome = true ↔ ofB T f x) (hl : ∀ kl, left kl = false) : (L.mergeSort fun x y => decide (x ≤ y)) = Cp.puts Cp.ltI (phrQ T f ws) := by
  refine Cp.puts_of Cp.ordI ?_ fun z => ?_
  · have h1 := Cp.sorted_pairI L
    have h2 : (L.mergeSort fun x y => decide (x ≤ y)).Nodup := (List.mergeSort_perm L _).nodup_iff.2 h.nd
    have h3 := h1.and h2
    exact h3.imp fun {a b} h9 => by
      obtain ⟨h4, h5⟩ := h9
      unfold Cp.ltI at *
      simp only [decide_eq_false_iff_not, decide_eq_true_eq] at *
      omega
  · rw [(List.mergeSort_perm L _).mem_iff, h.mem z, hg z, hl]
    unfold phrQ
    rw [List.mem_filter, ofF_mem]
    unfold ofB
    simp
end Ix

theorem run_eql_mapnil {P : Program} (w : World) (t k e : TypeId) (m : Option Nat) (h : P.underlying t = some (.map k e)) : (binOp .eql t (.map m) (.map none)).run P w = .ok (.bool m.isNone) w := by
  simp only [binOp]
  simp [run_equal_map_nil w t k e m h]
theorem ix_Phrase_nil (T : List Ix.PT) (a : Option Addr) (c : Nat) (f : Int) (wa : Option Addr) (wc : Nat) (w : World) :
    Calls Tryz.prog 26 #[.agg #[.slice a T.length c], .int .i64 f, .slice wa 0 wc] w fun e w' => ∃ v, e = .returned v ∧ Ix.OwnI w' w.heap.size v [] ∧ Below w.heap.size w w' := by
  go_enter Tryz.func26, Tryz.ntmps26
  go_wp2
  go_ret
  exact ⟨_, rfl, World.ownsRow_nil _ _ _ _, Tx.newb _ _⟩

set_option maxHeartbeats 6400000 in
theorem ix_Phrase_some (T : List Ix.PT) (a : Option Addr) (c : Nat) (f : Int) (s0 : Ix.By) (l : List Ix.By) (wa : Option Addr) (wc : Nat) (w : World) (h : Ix.PsA w a c T) (hn : T.length ≤ 100000000) (hw : SLA w wa wc ((s0 :: l).map fun x => (⟨x.toArray⟩ : ByteArray))) (hl : (s0 :: l).length ≤ 1000) (hz : ∀ s ∈ s0 :: l, s.length ≤ 1000000) (hwd : ∀ t ∈ T, t.1.word.length ≤ 1000000) (hid : ∀ t ∈ T, -9223372036854775808 ≤ t.1.id ∧ t.1.id ≤ 9223372036854775807) :
    Calls Tryz.prog 26 #[.agg #[.slice a T.length c], .int .i64 f, .slice wa (s0 :: l).length wc] w fun e w' => ∃ v, e = .returned v ∧ Ix.OwnI w' w.heap.size v (Cp.puts Cp.ltI (Ix.phrQ T f (s0 :: l))) ∧ Below w.heap.size w w' := by
  obtain ⟨i0, hi0, hz0, hz1, hz2⟩ := info_parts info_int
  have HI := Lib.hid hi0; clear hi0
  have hcap := h.fa.cap
  obtain ⟨ws, hws⟩ : ∃ ws, s0 :: l = ws := ⟨_, rfl⟩
  have hw0 : 0 < ws.length := by rw [← hws]; simp
  have hs0 : ws[0]? = some s0 := by rw [← hws]; rfl
  have hhit : ∀ x, Ix.hits T f ws x = (Ix.atL T f x s0).any fun n => Ix.folP T f x n 0 ws := fun x => by rw [← hws]; rfl
  have hhs := hz s0 (List.mem_cons_self ..)
  rw [hws] at hw hl hz ⊢
  have HHIT := Lib.hid hhit
  have HWS := Lib.hid hw
  have HZ := Lib.hid hz
  have HWD := Lib.hid hwd
  have HID := Lib.hid hid
  clear hws hhit hw hz hwd hid
  obtain ⟨W, hW⟩ : ∃ W, w.alloc (.cells #[.slice a T.length c] 34) = W := ⟨_, rfl⟩
  have hB : Below w.heap.size w W := by rw [← hW]; exact Tx.newb _ _
  have c0 : W.cell? ⟨w.heap.size, 0, none⟩ = some (.slice a T.length c) := by rw [← hW]; simp
  have HS := Lib.hid (h.below hB)
  have HWS2 := Lib.hid (HWS.out.below hB)
  clear h
  obtain ⟨M, hMe⟩ : ∃ M, W.heap.size = M := ⟨_, rfl⟩
  have hML : w.heap.size < M := by rw [← hMe, ← hW]; simp
  have HME := Lib.hid hMe
  obtain ⟨W1, hW1⟩ : ∃ W1, W.alloc (.map #[] 0) = W1 := ⟨_, rfl⟩
  have hP0 : Ix.PlS W1 M 0 0 T f (Ix.ofB (T.take 0) f) (fun _ => none) := by rw [← hW1, ← hMe]; exact Ix.PlS.start W T f
  have HB1 : Hid (Below W.heap.size W W1) := Lib.hid (by rw [← hW1]; exact Tx.newb _ _)
  have hmm := @run_makeMap Tryz.prog
  have HPZ := Lib.hid hP0
  have hws0 : ((ws.length : Int) == 0) = false := beq_eq_false_iff_ne.2 (by omega)
  have e0 := cell_later HB1.out c0
  clear hP0
  go_enter Tryz.func26, Tryz.ntmps26
  go_wp2
  clear hW hW1 hMe
  go_loopw [22] (fun i wr => ∃ (k : Nat), k ≤ T.length ∧ i = .int .i64 k ∧ Ix.PlR M k T f wr ∧ Below W.heap.size W wr) (fun i _ => T.length - (intOf i).toNat)
  case atStart => exact ⟨0, Nat.zero_le _, by go_num, ⟨_, HPZ.out⟩, HB1.out⟩
  case round =>
    obtain ⟨k, hk, rfl, ⟨g, hP⟩, hb⟩ := hrel
    have HP := Lib.hid hP
    clear hP
    have hbs := hb.size
    have HMW : Hid (W.heap.size ≤ M) := Lib.hid (by rw [HME.out]; exact Nat.le_refl _)
    by_cases hlt : k < T.length
    · obtain ⟨⟨y, ya, yc⟩, hy⟩ : ∃ y, T[k]? = some y := ⟨_, List.getElem?_eq_getElem hlt⟩
      have hym := List.mem_of_getElem? hy
      obtain ⟨b, o, rfl, hbl, g0, g1, g2, g3, _⟩ := HS.out.get hy
      simp only at g0 g1 g2 g3
      replace g0 := cell_later hb g0
      replace g1 := cell_later hb g1
      replace g2 := cell_later hb g2
      replace g3 := cell_later hb g3
      obtain ⟨V, hV⟩ : ∃ V, wr.alloc (.cells #[.int .i64 y.fld, .string ⟨y.word.toArray⟩, .int .i64 y.id, .slice ya y.at_.length yc] 52) = V := ⟨_, rfl⟩
      have hbV : Below wr.heap.size wr V := by rw [← hV]; exact Tx.newb _ _
      have HVB := Lib.hid (Tx.step hb hbV)
      have hsV : wr.heap.size < V.heap.size := by rw [← hV]; simp
      have KV : Hid (V.heap[wr.heap.size]? = some (.cells #[.int .i64 y.fld, .string ⟨y.word.toArray⟩, .int .i64 y.id, .slice ya y.at_.length yc] 52 (0, 0))) := Lib.hid (by rw [← hV]; exact heap_alloc_new wr _)
      have z0 : V.cell? ⟨wr.heap.size, 0, none⟩ = some (.int .i64 y.fld) := (Tx.blk KV.out).1 0
      have z1 : V.cell? ⟨wr.heap.size, 1, none⟩ = some (.string ⟨y.word.toArray⟩) := (Tx.blk KV.out).1 1
      have z2 : V.cell? ⟨wr.heap.size, 2, none⟩ = some (.int .i64 y.id) := (Tx.blk KV.out).1 2
      have z3 : V.cell? ⟨wr.heap.size, 3, none⟩ = some (.slice ya y.at_.length yc) := (Tx.blk KV.out).1 3
      have HKM : Hid (k < maxLen ∧ k + 1 < maxLen) := Lib.hid (by unfold maxLen; omega)
      by_cases hf : y.fld = f
      · have t0 : (y.fld == f) = true := by simpa using hf
        have hwf : (Lit.int .i64 y.id).wf = true := WalkArith.wf_i64 (by have := HID.out _ hym; simp only at this; omega)
        have hwl : y.word.length ≤ 9223372036854775807 := by have := HWD.out _ hym; simp only at this; omega
        have HF := Lib.hid hf
        have HY := Lib.hid hy
        have HWF := Lib.hid hwf
        have hPV := HP.out.below hbV
        cases hg : g y.id with
        | some b2 =>
          have hrun := hPV.outer.look Ix.nkey Tryz.underlying80 (Ix.mzero V) (Ix.nkeyOf hwf) (v := .map (some b2)) (by unfold Ix.gF; simp only [hg]; rfl)
          have HPV := Lib.hid hPV
          have HG := Lib.hid hg
          have hnn : (binOp .eql 81 (.map (some b2)) (.map none)).run Tryz.prog V = .ok (.bool false) V := run_eql_mapnil V _ _ _ (some b2) Tryz.underlying81
          clear hf hy hg hwf hPV hym
          go_wp2_with (at_mapUpdate; go_must (refine Vm.put_step (HPV.out.inner _ _ HG.out).1 HKM.out.1 Ix.skey (Ix.keyS _ hwl) trivial rfl _ _ _ rfl Tryz.underlying81 rfl rfl rfl ?_); intro w3 hM3 hg3)
          have hPN := HPV.out.word HY.out HF.out (fun x => ⟨.inl, fun h9 => h9.elim id (fun e => by rw [e]; exact (HPV.out.ids _).1 (by rw [HG.out]; rfl))⟩) HG.out hM3 hg3
          have hb3 : Below W.heap.size W w3 := HVB.out.grown hg3 HVB.out.size (fun j hj => by injection hj with hj; have := (HPV.out.inner _ _ HG.out).2; have := HMW.out; omega)
          go_roundw
          case rel => exact ⟨k + 1, hlt, by go_num, ⟨g, hPN.mono (Nat.le_succ k)⟩, hb3⟩
          case measure => simp [intOf]; omega
        | none =>
          have hrun := hPV.outer.look Ix.nkey Tryz.underlying80 (Ix.mzero V) (Ix.nkeyOf hwf) (v := .map none) (by unfold Ix.gF; simp only [hg]; rfl)
          have HPV := Lib.hid hPV
          have HG := Lib.hid hg
          have hnn : (binOp .eql 81 (.map none) (.map none)).run Tryz.prog V = .ok (.bool true) V := run_eql_mapnil V _ _ _ none Tryz.underlying81
          obtain ⟨B2, hB2⟩ : ∃ B2, V.heap.size = B2 := ⟨_, rfl⟩
          have HB2 := Lib.hid hB2
          have HMN : Hid (wr.heap.size ≠ M) := Lib.hid (by have := HP.out.outer.lt; omega)
          obtain ⟨V2, hV2⟩ : ∃ V2, V.alloc (.map #[] 0) = V2 := ⟨_, rfl⟩
          have HV2 : Hid (Below V.heap.size V V2) := Lib.hid (by rw [← hV2]; exact Tx.newb _ _)
          have hsV2 : wr.heap.size < V2.heap.size := by rw [← hV2]; simp; omega
          have HM2 : Hid (Vm.Map 9 V2 B2 0 (fun _ => none)) := Lib.hid (by rw [← hV2, ← hB2]; exact Vm.Map.made _ _)
          have KV2 : Hid (V2.heap[wr.heap.size]? = some (.cells #[.int .i64 y.fld, .string ⟨y.word.toArray⟩, .int .i64 y.id, .slice ya y.at_.length yc] 52 (0, 0))) := Lib.hid ((HV2.out.block _ hsV).trans KV.out)
          have q2 : V2.cell? ⟨wr.heap.size, 2, none⟩ = some (.int .i64 y.id) := (Tx.blk KV2.out).1 2
          clear hf hy hg hPV hym
          go_wp2_with (first
            | (at_mapUpdate; refine Vm.put_step HIN.out HKM.out.1 Ix.skey (Ix.keyS _ hwl) trivial rfl _ _ _ rfl Tryz.underlying81 rfl rfl rfl ?_; intro w4 hM4 hg4)
            | (at_mapUpdate; go_must (refine Vm.put_step (HPV.out.below HV2.out).outer HKM.out.1 Ix.nkey (Ix.nkeyOf hwf) trivial rfl _ _ _ rfl Tryz.underlying80 rfl rfl rfl ?_); intro w3 hM3 hg3; have HF3 := Lib.hid (HPV.out.fresh HG.out HV2.out HM2.out (by rw [HB2.out]; exact Nat.le_refl _) hM3 hg3); have hrun3 := hM3.look Ix.nkey Tryz.underlying80 (Ix.mzero w3) (Ix.nkeyOf hwf) (v := .map (some B2)) (by rw [Vm.upd_same]; rfl); have HIN := Lib.hid (HF3.out.inner y.id B2 (if_pos rfl)).1; have K3 := Tx.blk ((hg3.block _ hsV2 (fun e9 => HMN.out (by injection e9))).trans KV2.out); obtain ⟨k3c, k3f, k3l⟩ := K3; have HG3 := Lib.hid hg3; clear hM3 hg3))
          have hPN := HF3.out.word HY.out HF.out (fun x => Iff.rfl) (if_pos rfl) hM4 hg4
          have hb3 : Below W.heap.size W w3 := (Tx.step HVB.out HV2.out).grown HG3.out (Tx.step HVB.out HV2.out).size (fun j hj => by injection hj with hj; have := HMW.out; omega)
          have hb4 : Below W.heap.size W w4 := hb3.grown hg4 hb3.size (fun j hj => by injection hj with hj; have := HB2.out; have := HVB.out.size; omega)
          go_roundw
          case rel => exact ⟨k + 1, hlt, by go_num, ⟨_, hPN⟩, hb4⟩
          case measure => simp [intOf]; omega
      · have t0 : (y.fld == f) = false := by simpa using hf
        have HN := Lib.hid ((HP.out.skip hy hf).mono (Nat.le_succ k))
        clear hf hy
        go_wp2
        go_roundw
        case rel => exact ⟨k + 1, hlt, by go_num, ⟨g, HN.out.below hbV⟩, Tx.step hb hbV⟩
        case measure => simp [intOf]; omega
    · obtain rfl : k = T.length := by omega
      have hPe := HP.out.congr (S' := Ix.ofB T f) (fun x => by rw [List.take_length])
      have HPE := Lib.hid hPe
      clear hPe HP
      obtain ⟨w2, h2⟩ : ∃ w2, w2 = wr := ⟨_, rfl⟩
      subst h2
      go_wp2_with (at_range; refine Vm.range_step HPE.out.outer Ix.nkey rfl _ rfl Tryz.underlying80 rfl ?_; intro wq cnt0 hc0 hR0 hg0 hs0)
      go_frame
      have HBQ : Hid (Below w2.heap.size w2 wq) := Lib.hid ⟨hg0.os, hg0.tape, hg0.output, hg0.size, fun j hj => hg0.block j hj (by simp)⟩
      have HRQ := Lib.hid hR0
      clear hR0 hg0 hs0
      go_loopw [10, 61] (fun v _ w5 => Ix.PhR M w2.heap.size T.length w2.heap.size T.length g (Ix.PhS g T f ws) v w5 ∧ Below w2.heap.size w2 w5) (fun _ _ w5 => w5.rangeLeft M w2.heap.size)
      case atStart => exact ⟨⟨_, cnt0, [], HRQ.out, World.ownsRow_nil _ _ _ _, Ix.PhS.start g T f ws, by simpa using hc0⟩, HBQ.out⟩
      case round =>
        obtain ⟨⟨left, cnt, L, hR, hown, hPH, hlc⟩, hb5⟩ := hrel
        have HR := Lib.hid hR
        have HPH := Lib.hid hPH
        clear hR hPH
        obtain ⟨w5, h5⟩ : ∃ w5, w5 = wr := ⟨_, rfl⟩
        subst h5
        go_wp2_with (at_next; refine Vm.next_step HR.out rfl _ rfl rfl ?_ ?_)
        · intro hc hl9
          have HL := Lib.hid hl9
          clear hl9 hc
          go_wp2_with (go_at_call 58; ((with_reducible refine (SortI_c hown (by omega)).mono ?_); rintro e w6 ⟨rfl, hownS, hg6⟩))
          go_ret
          have hd := HPH.out.done HPE.out.ids HL.out
          rw [hd] at hownS
          have hl2 : L.length = (Cp.puts Cp.ltI (Ix.phrQ T f ws)).length := by rw [← hd, List.length_mergeSort]
          rw [hl2] at hownS
          have hbz : Below W.heap.size W w6 := (Tx.step hb hb5).grown hg6 (Tx.step hb hb5).size (fun j hj => by have := (hown.lt j hj).1; omega)
          exact ⟨_, rfl, Ix.row_lower hownS (by have := hB.size; omega), Tx.step hB hbz⟩
        · intro x v w6 cnt6 hwf hlk hfx hR6 hlt6 hg6 hs6 hen
          obtain ⟨b2, hgx, rfl⟩ := Ix.gF_get hfx
          clear hs6 hfx
          have hown6 : Ix.OwnI w6 w2.heap.size _ L := hown.kept hg6 (.inr (HR.out.ne_row hown))
          have hb6 : Below w2.heap.size w2 w6 := hb5.grown hg6 hb5.size (fun j hj => by injection hj with hj; omega)
          have hb6s := hb6.size
          obtain ⟨va, vc, rfl, _⟩ := own_shape2 hown6
          have HR6 := Lib.hid hR6
          have HLK := Lib.hid hlk
          have HGX := Lib.hid hgx
          have HO6 := Lib.hid hown6
          have hbW : Below W.heap.size W w6 := Tx.step hb hb6
          have HA6 : Hid (Ix.Ats w6 T) := Lib.hid (HS.out.ats.below hbW)
          have HW6 := Lib.hid (HWS2.out.below hbW)
          obtain ⟨qa, qo, rfl, hql, hqc⟩ := HW6.out.get (k := 0) (x := ⟨s0.toArray⟩) (by rw [List.getElem?_map, hs0]; rfl)
          rw [Nat.add_zero] at hqc
          have hIM := ((HPE.out.below hb6).inner x b2 hgx).1
          rw [List.take_length] at hIM
          obtain ⟨a1, c1, ev, hI, hll⟩ := Ix.lk_sl (f := f) (id := x) (s := s0) HA6.out
          have hrun := hIM.look Ix.skey Tryz.underlying81 (Ix.slzero w6) (Ix.keyS s0 (by omega)) (v := .slice a1 (Ix.atL T f x s0).length c1) ev
          have HIM := Lib.hid hIM
          have HIA := Lib.hid hI
          have HHX := Lib.hid (HHIT.out x)
          obtain ⟨N, hN⟩ : ∃ N, Ix.atL T f x s0 = N := ⟨_, rfl⟩
          rw [hN] at hrun hll HIA HHX
          have hLm : L.length + 1 ≤ 100000001 := by omega
          have HF := fun n w' (h9 : Below w6.heap.size w6 w') => ix_follows_c T f x n b2 T.length ws (some ⟨qa, qo, none⟩) wc w' (HIM.out.below h9) (HA6.out.below h9) (HW6.out.below h9) hl HZ.out
          have HFO := Lib.hid HF
          clear hR6 hlk hgx hown6 hIM ev hI hN hown HF
          go_wp2
          go_loop [10, 61] (fun v0 i => v0 = .slice va L.length vc ∧ ∃ j : Nat, j ≤ N.length ∧ i = .int .i64 j ∧ Hid (∀ n ∈ N.take j, Ix.folP T f x n 0 ws = false)) (fun _ i => N.length - (intOf i).toNat)
          case atStart => exact ⟨rfl, 0, Nat.zero_le _, by go_num, Lib.hid (fun n hn => by simp at hn)⟩
          case round =>
            obtain ⟨rfl, j, hj, rfl, HNO⟩ := hrel
            by_cases hjl : j < N.length
            · obtain ⟨n, hn⟩ : ∃ n, N[j]? = some n := ⟨_, List.getElem?_eq_getElem hjl⟩
              obtain ⟨b7, o7, rfl, hb7, hc7⟩ := HIA.out.cell hn
              have HNN := Lib.hid hn
              clear hn
              cases hq : Ix.folP T f x n 0 ws with
              | true =>
                have HC := Lib.hid (HFO.out n w6 (Below.refl _ _))
                rw [hq] at HC
                have HQ := Lib.hid hq
                clear hq
                go_wp2_with (first
                  | (go_at_call 57; ((with_reducible refine HC.out.mono ?_); rintro e w7 ⟨rfl, rfl⟩))
                  | (at_builtin; go_must (refine wpList_append_sl rfl _ _ 41 rfl w2.heap.size 3 i0 _ 1 8 Tryz.underlying41 HI.out hz0 hz1 hz2 rfl (by decide) _ (L.length) _ rfl (HO6.out.alloc _) (some ⟨_, 0, none⟩) 1 1 [.int .i64 x] rfl rfl (fun h9 => by cases h9) (fun ad had => by cases had; exact Br.cells_new_at _ _ (by first | rfl | simp) _ _) (by simp [Value.oneCell']) (by unfold maxLen; omega) (by omega) (by simp; omega) ?_); intro v8 w8 hown8 hg8 hnil8))
                have hR8 := (HR6.out.below (Tx.newb w6 _)).kept hg8 (HR6.out.map.ne_row HO6.out).symm (HR6.out.ne_row HO6.out).symm
                have hP8 := HPH.out.add (by rw [HGX.out]; rfl) HLK.out (by rw [HHX.out, List.any_eq_true]; exact ⟨n, List.mem_of_getElem? HNN.out, HQ.out⟩)
                have hb8 : Below w2.heap.size w2 w8 := (Tx.step hb6 (Tx.newb w6 _)).grown hg8 (by simp; omega) (fun j hj => (HO6.out.lt j hj).1)
                go_roundw
                case rel => exact ⟨⟨_, cnt6, L ++ [x], hR8, Ix.ownI_snoc hown8, hP8, by rw [List.length_append]; simp; omega⟩, hb8⟩
                case measure => rw [hR8.left_eq, HR.out.left_eq]; exact hlt6
              | false =>
                have HC := Lib.hid (HFO.out n w6 (Below.refl _ _))
                rw [hq] at HC
                have HQ := Lib.hid hq
                clear hq
                go_wp2_with (go_at_call 57; ((with_reducible refine HC.out.mono ?_); rintro e w7 ⟨rfl, rfl⟩))
                go_round
                case rel => exact ⟨rfl, j + 1, hjl, by go_num, Lib.hid (fun m hm => by
                  rw [Ix.take_snoc HNN.out] at hm
                  rcases List.mem_append.1 hm with hm | hm
                  · exact HNO.out m hm
                  · rw [List.mem_singleton] at hm; rw [hm]; exact HQ.out)⟩
                case measure => simp [intOf]; omega
            · obtain rfl : j = N.length := by omega
              have hno := HNO.out
              rw [List.take_length] at hno
              have hP8 := HPH.out.pass (x := x) (by
                rw [HHX.out, Bool.eq_false_iff]
                intro h9
                obtain ⟨n, h10, h11⟩ := List.any_eq_true.1 h9
                rw [hno n h10] at h11
                cases h11)
              have HP8 := Lib.hid hP8
              clear hno hP8
              go_wp2
              go_roundw
              case rel => exact ⟨⟨_, cnt6, L, HR6.out, HO6.out, HP8.out, by omega⟩, hb6⟩
              case measure => rw [HR6.out.left_eq, HR.out.left_eq]; exact hlt6

theorem ix_Phrase_c (T : List Ix.PT) (a : Option Addr) (c : Nat) (f : Int) (ws : List Ix.By) (wa : Option Addr) (wc : Nat) (w : World) (h : Ix.PsA w a c T) (hn : T.length ≤ 100000000) (hw : SLA w wa wc (ws.map fun x => (⟨x.toArray⟩ : ByteArray))) (hl : ws.length ≤ 1000) (hz : ∀ s ∈ ws, s.length ≤ 1000000) (hwd : ∀ t ∈ T, t.1.word.length ≤ 1000000) (hid : ∀ t ∈ T, -9223372036854775808 ≤ t.1.id ∧ t.1.id ≤ 9223372036854775807) :
    Calls Tryz.prog 26 #[.agg #[.slice a T.length c], .int .i64 f, .slice wa ws.length wc] w fun e w' => ∃ v, e = .returned v ∧ Ix.OwnI w' w.heap.size v (Cp.puts Cp.ltI (Ix.phrQ T f ws)) ∧ Below w.heap.size w w' := by
  cases ws with
  | nil =>
    have e : Ix.phrQ T f [] = [] := by unfold Ix.phrQ Ix.hits; simp
    rw [e]
    exact ix_Phrase_nil T a c f wa wc w
  | cons s0 l => exact ix_Phrase_some T a c f s0 l wa wc w h hn hw hl hz hwd hid
end Go.Proofs.YtcjalpegffldaaaGreatDoor

/- slices.Clone at the types of the program: what the calls return. -/
namespace Go.Proofs.YtcjalpegffldaaaGreatDoor
open Go.RowKit
set_option maxRecDepth 100000

theorem run_eql_nil {P : Program} (w : World) (t e : TypeId) (a : Option Addr) (l c : Nat) (h : P.underlying t = some (.slice e)) : (binOp .eql t (.slice a l c) (.slice none 0 0)).run P w = .ok (.bool a.isNone) w := by
  simp only [binOp]
  simp [run_equal_slice_nil w t e a l c h]
attribute [local go_sem] run_eql_nil

end Go.Proofs.YtcjalpegffldaaaGreatDoor

/- The program's clone of posts, of, and the searches by it: what the calls return. -/
namespace Go.Proofs.YtcjalpegffldaaaGreatDoor
open Go.RowKit
set_option maxRecDepth 100000
attribute [local go_sem] run_eql_nil

set_option maxHeartbeats 800000 in
theorem ClonePost_c (T : List Ix.PT) (a : Option Addr) (c : Nat) (w : World) (h : Br.FA Ix.encP 4 w a c T) (hn : T.length ≤ 100000000) :
    Calls Tryz.prog 62 #[.slice a T.length c] w fun e w' => ∃ v, e = .returned v ∧ Ix.OwnP w' w.heap.size v T ∧ Below w.heap.size w w' := by
  obtain ⟨i0, hi0, hz0, hz1, hz2⟩ := info_parts info_post
  have hmx : maxLen = 9223372036854775807 := rfl
  cases a with
  | none =>
    have h0 := h.none rfl
    have h9 := List.eq_nil_of_length_eq_zero h0
    subst h9
    go_enter Tryz.func62, Tryz.ntmps62
    go_wp2
    go_ret
    exact ⟨_, rfl, ⟨rfl, .inl ⟨rfl, rfl⟩⟩, Below.refl _ _⟩
  | some ad =>
    go_enter Tryz.func62, Tryz.ntmps62
    go_wp2_with (at_builtin; go_must (refine wpList_append_sl rfl _ _ 32 rfl w.heap.size 52 i0 _ 4 56 Tryz.underlying32 hi0 hz0 hz1 hz2 rfl (by decide) _ 0 [] rfl (World.ownsRow_lit (base := w.heap.size) (e := 52) (size := 4) w #[] 0 (by simp) (by unfold maxLen; omega) rfl) (some ad) T.length c (T.flatMap Ix.encP) rfl (Br.flat_len Ix.encP 4 Ix.encP_len T) (fun h => by cases h) ((h.below (Tx.newb w _)).cells Ix.encP_len (by omega)) (Br.flat_one Ix.p_one T) (by omega) (by omega) (by simp) ?_); intro v1 w1 hown1 hg1 hnil1)
    go_ret
    rw [Nat.zero_add, List.nil_append] at hown1
    exact ⟨_, rfl, hown1, (Tx.newb w _).grown hg1 (by simp) (fun j hj => by cases hj; exact Nat.le_refl _)⟩

/-- The closure's box holds this number. -/
structure Ix.CapI (w : World) (bx : Nat) (id : Int) : Prop where
  h : w.cell? ⟨bx, 0, none⟩ = some (.int .i64 id)
  lt : bx < w.heap.size
theorem Ix.CapI.below {w w' : World} {bx : Nat} {id : Int} (h : Ix.CapI w bx id) (hb : Below w.heap.size w w') : Ix.CapI w' bx id :=
  ⟨cell_later hb h.h, Nat.lt_of_lt_of_le h.lt hb.size⟩
set_option maxHeartbeats 400000 in
theorem ix_of1_c (t : Ix.PT) (bx : Nat) (id : Int) (w : World) (h : Ix.CapI w bx id) : Calls Tryz.prog 85 #[.agg (Ix.encP t).toArray, .pointer (some ⟨bx, 0, none⟩)] w fun e w' => e = .returned (.bool (t.1.id == id)) ∧ Below w.heap.size w w' := by
  have c0 := h.h
  have hlt := h.lt
  go_enter Tryz.func85, Tryz.ntmps85
  go_wp2
  go_ret
  exact ⟨rfl, Tx.newb _ _⟩
set_option maxHeartbeats 400000 in
theorem ix_of_c (id : Int) (w : World) : Calls Tryz.prog 61 #[.int .i64 id] w fun e w' => ∃ bx, e = .returned (.func (.func 85) #[] #[.pointer (some ⟨bx, 0, none⟩)]) ∧ Ix.CapI w' bx id ∧ w.heap.size ≤ bx ∧ Below w.heap.size w w' := by
  have hmf : ∀ (fn : Fn) (first cap : Array Value) (w : World), (Instr.makeFunc fn first cap).run Tryz.prog w = .ok (.func fn first cap) w := fun _ _ _ _ => rfl
  go_enter Tryz.func61, Tryz.ntmps61
  go_wp2
  go_ret
  exact ⟨w.heap.size, rfl, ⟨by simp, by simp⟩, Nat.le_refl _, Tx.newb _ _⟩

theorem ix_of1_enters : ∀ args w, (callFunc 85 args).run Tryz.prog w = .ok (.enter 85 args) w := enters_of Tryz.func85 (by kernel_rfl) rfl
theorem Ix.CapI.pred {w : World} {bx : Nat} {id : Int} (h : Ix.CapI w bx id) : PredBelow Tryz.prog 85 #[.pointer (some ⟨bx, 0, none⟩)] (fun t : Ix.PT => .agg (Ix.encP t).toArray) (fun t => t.1.id == id) w :=
  fun W t hb => by
    have h1 := ix_of1_c t bx id W (h.below hb)
    have h2 : (#[.agg (Ix.encP t).toArray] ++ #[.pointer (some ⟨bx, 0, none⟩)] : Array Value) = #[.agg (Ix.encP t).toArray, .pointer (some ⟨bx, 0, none⟩)] := by simp
    rw [← h2] at h1
    exact h1.mono fun _ _ ⟨h3, h4⟩ => ⟨h3, hb.trans (h4.mono hb.size)⟩

theorem Ix.FA_at {w : World} {T : List Ix.PT} {b o c : Nat} (h : Br.FA Ix.encP 4 w (some ⟨b, o, none⟩) c T) : ∀ j, j < T.length → ∀ i v, (Ix.encP T[j]!)[i]? = some v → w.cell? ⟨b, o + j * 4 + i, none⟩ = some v := by
  intro j hj i v hv
  have hk : T[j]? = some T[j]! := by rw [getElem!_pos T j hj, List.getElem?_eq_getElem hj]
  obtain ⟨b', o', e1, _, e3⟩ := h.get hk
  injection e1 with e1
  injection e1 with e1 e2
  subst e1 e2
  exact e3 i v hv
theorem ix_idxPost : SlLaysH0.n6 Tryz.prog Tryz.contPost_ren := { Tryz.contPost with }
set_option maxHeartbeats 400000 in
theorem ix_idx_c (T : List Ix.PT) (a : Option Addr) (c : Nat) (bx : Nat) (id : Int) (w : World) (h : Br.FA Ix.encP 4 w a c T) (hC : Ix.CapI w bx id) (hn : T.length ≤ 1000000000) :
    Calls Tryz.prog 84 #[.slice a T.length c, .func (.func 85) #[] #[.pointer (some ⟨bx, 0, none⟩)]] w fun e w' => e = .returned (.int .i64 (Lib.idxBy (fun _ t => t.1.id == id) T default)) ∧ Below w.heap.size w w' := by
  by_cases hne : T = []
  · subst hne
    go_enter Tryz.func84, Tryz.ntmps84
    go_wp2
    go_loopg [5, 8] 0 (fun gg _ s8 wr => s8 = .int .i64 0 ∧ wr = w)
    case atStart => exact ⟨rfl, rfl⟩
    case round =>
      obtain ⟨rfl, rfl⟩ := hrel
      go_wp2
      go_ret
      exact ⟨rfl, Below.refl _ _⟩
  · obtain ⟨b, o, h1, _⟩ := h.at_
    obtain ⟨rfl, hb⟩ := h1 hne
    have hx := AnyQ.slices_IndexFunc ix_idxPost 4 Tryz.isAgg52 Tryz.sizeOf52 Ix.encP Ix.encP_len (fun t => t.1.id == id) 85 #[.pointer (some ⟨bx, 0, none⟩)] ix_of1_enters b o T.length c T w hC.pred (Nat.le_refl _) (by omega) hb (Ix.FA_at h)
    rw [List.take_length] at hx
    exact hx
set_option maxHeartbeats 400000 in
theorem ix_has_c (T : List Ix.PT) (a : Option Addr) (c : Nat) (bx : Nat) (id : Int) (w : World) (h : Br.FA Ix.encP 4 w a c T) (hC : Ix.CapI w bx id) (hn : T.length ≤ 1000000000) :
    Calls Tryz.prog 60 #[.slice a T.length c, .func (.func 85) #[] #[.pointer (some ⟨bx, 0, none⟩)]] w fun e w' => e = .returned (.bool (T.any fun t => t.1.id == id)) ∧ Below w.heap.size w w' := by
  by_cases hne : T = []
  · subst hne
    have HX := ix_idx_c [] a c bx id w h hC (by simp)
    rw [List.length_nil] at HX
    go_enter Tryz.func60, Tryz.ntmps60
    go_wp2_with (go_at_call 84; ((with_reducible refine HX.mono ?_); rintro e w1 ⟨rfl, hb1⟩; have hsz1 := hb1.size))
    go_ret
    exact ⟨rfl, hb1⟩
  · obtain ⟨b, o, h1, _⟩ := h.at_
    obtain ⟨rfl, hb⟩ := h1 hne
    have hx := AnyQ.slices_ContainsFunc Tryz.contPost 4 Tryz.isAgg52 Tryz.sizeOf52 Ix.encP Ix.encP_len (fun t => t.1.id == id) 85 #[.pointer (some ⟨bx, 0, none⟩)] ix_of1_enters b o T.length c T w hC.pred (Nat.le_refl _) (by omega) hb (Ix.FA_at h)
    rw [List.take_length] at hx
    exact hx
end Go.Proofs.YtcjalpegffldaaaGreatDoor

/- slices.DeleteFunc at posts that the call owns: what it returns. -/
namespace Go.Proofs.YtcjalpegffldaaaGreatDoor
open Go.RowKit
set_option maxRecDepth 100000
namespace Ix
/-- Block g holds these posts. -/
structure Dl (w : World) (g : Nat) (L : List PT) : Prop where
  cells : ∀ (j : Nat) (t : PT), L[j]? = some t → ∀ (i : Nat) (u : Value), (encP t)[i]? = some u → w.cell? ⟨g, j * 4 + i, none⟩ = some u
  blk : ∃ cur, w.heap[g]? = some (.cells cur 52 (0, 0))
theorem Dl.frozen {w : World} {g : Nat} {L : List PT} (h : Dl w g L) (o : Nat) : w.frozen? ⟨g, o, none⟩ = false := by
  obtain ⟨cur, hc⟩ := h.blk
  simp [World.frozen?, hc]
theorem Dl.of_own {w : World} {B g n cap : Nat} {T : List PT} (h : OwnP w B (.slice (some ⟨g, 0, none⟩) n cap) T) : Dl w g T := by
  obtain ⟨a, c, e, h1, h2⟩ := Br.FA.of_own encP_len h rfl
  injection e with e1 e2 e3
  refine ⟨fun j t hj i u hu => ?_, ?_⟩
  · obtain ⟨b, o, e4, _, h5⟩ := h1.get hj
    rw [← e1] at e4
    injection e4 with e4
    injection e4 with e4 e6
    subst e4 e6
    have := h5 i u hu
    rwa [Nat.zero_add] at this
  · rcases h.2 with ⟨e, _⟩ | ⟨g', cap', cur, e, _, h3, _⟩
    · cases e
    · injection e with e
      injection e with e
      injection e with e
      subst e
      exact ⟨cur, h3⟩
theorem blk_setCells {e : TypeId} {g : Nat} : ∀ (vs : List Value) (o : Nat) (w : World), (∃ cur, w.heap[g]? = some (.cells cur e (0, 0))) → ∃ cur, (w.setCells g o vs).heap[g]? = some (.cells cur e (0, 0))
  | [], _, _, h => h
  | v :: r, o, w, ⟨cur, h⟩ => blk_setCells r (o + 1) _ ⟨_, heap_setCell_same w g o cur e v h⟩
theorem Dl.set {w : World} {g m : Nat} {L : List PT} {old t : PT} (h : Dl w g L) (hm : L[m]? = some old) : Dl (w.setCells g (m * 4) (encP t)) g (L.set m t) := by
  refine ⟨fun j x hj i u hu => ?_, blk_setCells _ _ _ h.blk⟩
  have hml : m < L.length := (List.getElem?_eq_some_iff.1 hm).1
  have hi4 : i < 4 := by
    have := (List.getElem?_eq_some_iff.1 hu).1
    simpa using this
  by_cases e : m = j
  · subst e
    rw [List.getElem?_set_self hml] at hj
    injection hj with hj
    subst hj
    have := World.cell?_setCells_in g (encP t) (m * 4) w (fun k hk => by
      have hk4 : k < 4 := hk
      rw [h.cells m old hm k ((encP old)[k]'hk4) (List.getElem?_eq_getElem _)]; rfl) i hi4
    rw [this, ← hu, List.getElem?_eq_getElem (show i < (encP t).length from hi4)]
  · rw [List.getElem?_set_ne e] at hj
    rw [World.cell?_setCells_out g _ _ _ _ (fun _ _ => by simp only [encP_len]; omega)]
    exact h.cells j x hj i u hu
theorem Dl.of_block {w w' : World} {g : Nat} {L : List PT} (h : Dl w g L) (hb : w'.heap[g]? = w.heap[g]?) : Dl w' g L :=
  ⟨fun j t hj i u hu => (World.cell?_of_block hb).trans (h.cells j t hj i u hu), by rw [hb]; exact h.blk⟩
theorem dropT_le (T : List PT) (id : Int) (k : Nat) : (dropT (T.take k) id).length ≤ k :=
  Nat.le_trans (List.length_filter_le _ _) (by rw [List.length_take]; omega)
/-- The posts of the block, k of them read. -/
def delL (T : List PT) (id : Int) (k : Nat) : List PT := dropT (T.take k) id ++ T.drop (dropT (T.take k) id).length
theorem delL_at {T : List PT} {id : Int} {k : Nat} {t : PT} (h : T[k]? = some t) : (delL T id k)[k]? = some t := by
  have h1 := dropT_le T id k
  unfold delL
  rw [List.getElem?_append_right h1, List.getElem?_drop, show (dropT (T.take k) id).length + (k - (dropT (T.take k) id).length) = k by omega]
  exact h
theorem delL_low {T : List PT} {id : Int} {k : Nat} {t : PT} (h : T[k]? = some t) : ∃ u, (delL T id k)[(dropT (T.take k) id).length]? = some u := by
  have h1 := dropT_le T id k
  have h2 := (List.getElem?_eq_some_iff.1 h).1
  have : (dropT (T.take k) id).length < (delL T id k).length := by unfold delL; rw [List.length_append, List.length_drop]; omega
  exact ⟨_, List.getElem?_eq_getElem this⟩
theorem delL_skip {T : List PT} {id : Int} {k : Nat} {t : PT} (h : T[k]? = some t) (hq : (t.1.id == id) = true) : delL T id (k + 1) = delL T id k := by
  have h3 := dropT_take id h
  rw [if_pos hq, List.append_nil] at h3
  unfold delL
  rw [h3]
theorem delL_keep {T : List PT} {id : Int} {k : Nat} {t : PT} (h : T[k]? = some t) (hq : (t.1.id == id) = false) : delL T id (k + 1) = (delL T id k).set (dropT (T.take k) id).length t := by
  have h1 := dropT_le T id k
  have h2 := (List.getElem?_eq_some_iff.1 h).1
  have h3 := dropT_take id h
  rw [if_neg (by rw [hq]; decide)] at h3
  unfold delL
  rw [h3]
  generalize dropT (T.take k) id = D at h1 ⊢
  rw [List.length_append, List.set_append_right _ _ (Nat.le_refl _), Nat.sub_self, drop_cons (List.getElem?_eq_getElem (show D.length < T.length by omega)), List.set_cons_zero, List.append_assoc]
  rfl
theorem delL_pre {T : List PT} {id : Int} {k : Nat} {j : Nat} {t : PT} (h : (dropT (T.take k) id)[j]? = some t) : (delL T id k)[j]? = some t := by
  unfold delL
  rw [List.getElem?_append_left (List.getElem?_eq_some_iff.1 h).1]
  exact h
theorem first_hit (p : Nat → Bool) : ∀ n, (∀ j, j < n → p j = false) ∨ ∃ k, k < n ∧ p k = true ∧ ∀ j, j < k → p j = false
  | 0 => .inl fun j hj => absurd hj (Nat.not_lt_zero _)
  | n + 1 => by
    rcases first_hit p n with h | ⟨k, h1, h2, h3⟩
    · cases hq : p n with
      | true => exact .inr ⟨n, Nat.lt_succ_self n, hq, h⟩
      | false =>
        refine .inl (fun j hj => ?_)
        by_cases h4 : j < n
        · exact h j h4
        · rw [show j = n by omega]
          exact hq
    · exact .inr ⟨k, by omega, h2, h3⟩
theorem dropT_none {T : List PT} {id : Int} {k : Nat} (hk : k ≤ T.length) (h : ∀ j, j < k → (T[j]!.1.id == id) = false) : dropT (T.take k) id = T.take k := by
  unfold dropT
  rw [List.filter_eq_self]
  intro t ht
  obtain ⟨j, hj, e⟩ := List.getElem_of_mem ht
  rw [List.length_take] at hj
  rw [List.getElem_take] at e
  have := h j (by omega)
  rw [getElem!_pos T j (by omega), e] at this
  simp [this]
theorem delL_start {T : List PT} {id : Int} {k : Nat} (hk : k < T.length) (hq : (T[k]!.1.id == id) = true) (h : ∀ j, j < k → (T[j]!.1.id == id) = false) : delL T id (k + 1) = T ∧ (dropT (T.take (k + 1)) id).length = k := by
  have ht : T[k]? = some T[k]! := by rw [getElem!_pos T k hk, List.getElem?_eq_getElem hk]
  have h3 := dropT_take id ht
  rw [if_pos hq, List.append_nil, dropT_none (by omega) h] at h3
  have hl : (T.take k).length = k := by rw [List.length_take]; omega
  unfold delL
  rw [h3, hl]
  exact ⟨List.take_append_drop k T, rfl⟩
theorem grownBy_sets {g : Nat} : ∀ (vs : List Value) (o : Nat) (w : World), w.grownBy (w.setCells g o vs) (some g)
  | [], _, w => ⟨rfl, rfl, rfl, Nat.le_refl _, fun _ _ _ => rfl⟩
  | v :: r, o, w => World.grownBy.trans (⟨rfl, rfl, rfl, by simp [World.setCell], fun k _ hk => heap_setCell_other w _ k v (fun e => hk (by rw [e]))⟩ : w.grownBy (w.setCell ⟨g, o, none⟩ v) (some g)) (grownBy_sets r (o + 1) _)
theorem Dl.some {w : World} {g : Nat} {L : List PT} (h : Dl w g L) {o : Nat} (ho : o < L.length * 4) : (w.cell? ⟨g, o, none⟩).isSome = true := by
  have h1 : o / 4 < L.length := by omega
  have h2 := h.cells (o / 4) _ (List.getElem?_eq_getElem h1) (o % 4) _ (List.getElem?_eq_getElem (show o % 4 < (encP _).length from Nat.mod_lt _ (by omega)))
  rw [show o / 4 * 4 + o % 4 = o by omega] at h2
  rw [h2]; rfl
theorem delL_len {T : List PT} {id : Int} {k : Nat} (h : k ≤ T.length) : (delL T id k).length = T.length := by
  have h1 := dropT_le T id k
  unfold delL
  rw [List.length_append, List.length_drop]; omega
theorem run_clear_posts (w : World) (g o n c : Nat) (L : List PT) (hD : Dl w g L) (hn : 0 < n) (hL : ∀ j, j < n * 4 → (w.cell? ⟨g, o + j, none⟩).isSome = true) :
    ∃ vs : List Value, vs.length = n * 4 ∧ ∀ ty, (Builtin.clear_ #[32] ty #[.slice (some ⟨g, o, none⟩) n c]).run Tryz.prog w = .ok (.tuple #[]) (w.setCells g o vs) := by
  obtain ⟨z, hz⟩ : ∃ z : Array Value, z = #[.int .i64 0, .string ⟨#[]⟩, .int .i64 0, .slice none 0 0] := ⟨_, rfl⟩
  have hzv : ∀ w, (zeroValue 52).run Tryz.prog w = .ok (.agg z) w := fun w => by rw [hz]; exact Tryz.zeroValue52 w
  have hzs : z.size = 4 := by rw [hz]; rfl
  have hzc : (Value.agg z).cells = z := by rw [hz]; rfl
  obtain ⟨m, rfl⟩ : ∃ m, n = m + 1 := ⟨n - 1, by omega⟩
  have hlen : (Builtin.zeroCells z (m + 1)).toList.length = (m + 1) * 4 := by simp [Builtin.zeroCells, hzs]
  have hone : ∀ v ∈ (Builtin.zeroCells z (m + 1)).toList, v.oneCell' = true := by
    intro v hv
    simp only [Builtin.zeroCells, Array.toList_map, List.mem_map] at hv
    obtain ⟨i, _, rfl⟩ := hv
    rw [hzs]
    have h4 : i % 4 < 4 := Nat.mod_lt _ (by omega)
    generalize i % 4 = j at h4
    match j, h4 with
    | 0, _ => rw [hz]; rfl
    | 1, _ => rw [hz]; rfl
    | 2, _ => rw [hz]; rfl
    | 3, _ => rw [hz]; rfl
  have hst := run_storeCells_cells (P := Tryz.prog) g o (Builtin.zeroCells z (m + 1)).toList 0 w (by rw [hlen]; simpa using hL) (fun j _ => hD.frozen _) hone
  simp only [Nat.add_zero] at hst
  refine ⟨_, hlen, fun ty => ?_⟩
  simp [Builtin.clear_, run_underlying Tryz.underlying32, hzv, hzc, hst]
end Ix

set_option maxHeartbeats 1600000 in
theorem ix_del_c (T : List Ix.PT) (B g cap bx : Nat) (id : Int) (w : World) (hown : Ix.OwnP w B (.slice (some ⟨g, 0, none⟩) T.length cap) T) (hC : Ix.CapI w bx id) (hbx : bx ≠ g) (hn : T.length ≤ 100000000) :
    Calls Tryz.prog 65 #[.slice (some ⟨g, 0, none⟩) T.length cap, .func (.func 85) #[] #[.pointer (some ⟨bx, 0, none⟩)]] w fun e w' => e = .returned (.slice (some ⟨g, 0, none⟩) (Ix.dropT T id).length cap) ∧ Ix.Dl w' g (Ix.dropT T id) ∧ w.grownBy w' (some g) := by
  obtain ⟨hgB, hglt⟩ := hown.lt g rfl
  have hgw := hglt
  have hfa : ∃ a c, Value.slice (some ⟨g, 0, none⟩) T.length cap = .slice a T.length c ∧ Br.FA Ix.encP 4 w a c T ∧ (∀ q, a = some q → B ≤ q.block) := Br.FA.of_own Ix.encP_len hown rfl
  obtain ⟨a, c, e1, hF, _⟩ := hfa
  injection e1 with e1 _ e2
  subst e1 e2
  have hcap := hF.cap
  have hmax := hF.max
  unfold maxLen at hmax
  have HX := ix_idx_c T _ _ bx id w hF hC (by omega)
  have HD0 := Lib.hid (Ix.Dl.of_own hown)
  clear hown hF
  rcases Ix.first_hit (fun j => T[j]!.1.id == id) T.length with h1 | ⟨k0, h1, h2, h3⟩
  · have hm := Lib.idxBy_miss (fun (_ t : Ix.PT) => t.1.id == id) T T.length default h1
    rw [List.take_length] at hm
    rw [hm] at HX
    have hdt := Ix.dropT_none (Nat.le_refl _) h1
    rw [List.take_length] at hdt
    rw [hdt]
    clear hdt hm h1
    go_enter Tryz.func65, Tryz.ntmps65
    go_wp2_with (go_at_call 84; ((with_reducible refine HX.mono ?_); rintro e w1 ⟨rfl, hb1⟩; have hsz1 := hb1.size))
    go_ret
    exact ⟨rfl, HD0.out.of_block (hb1.block g hglt), (⟨hb1.os, hb1.tape, hb1.output, hb1.size, fun k hk _ => hb1.block k hk⟩ : w.grownBy _ _)⟩
  · have hm := Lib.idxBy_hit (fun (_ t : Ix.PT) => t.1.id == id) T T.length k0 default h1 (Nat.le_refl _) h2 h3
    rw [List.take_length] at hm
    rw [hm] at HX
    obtain ⟨hs1, hs2⟩ := Ix.delL_start h1 h2 h3
    have HS1 := Lib.hid hs1
    have HS2 := Lib.hid hs2
    have hne1 : ((k0 : Int) == -1) = false := beq_eq_false_iff_ne.2 (by omega)
    clear hs1 hs2 h2 h3 hm
    go_enter Tryz.func65, Tryz.ntmps65
    go_wp2_with (go_at_call 84; ((with_reducible refine HX.mono ?_); rintro e w1 ⟨rfl, hb1⟩; have hsz1 := hb1.size))
    have HC := Lib.hid hC
    clear HX
    go_loopg [5, 6, 7] T.length (fun gg s5 s6 _ wr => ∃ k : Nat, k ≤ T.length ∧ T.length - k ≤ gg ∧ s6 = .int .i64 k ∧ s5 = .int .i64 ((Ix.dropT (T.take k) id).length : Nat) ∧ (Ix.dropT (T.take k) id).length < k ∧ Hid (Ix.Dl wr g (Ix.delL T id k)) ∧ Hid (w.grownBy wr (some g)))
    case atStart => exact ⟨k0 + 1, h1, by omega, by go_num, by rw [HS2.out], by rw [HS2.out]; omega, Lib.hid (by rw [HS1.out]; exact HD0.out.of_block (hb1.block g hglt)), Lib.hid ⟨hb1.os, hb1.tape, hb1.output, hb1.size, fun k hk _ => hb1.block k hk⟩⟩
    case round =>
      obtain ⟨k, hk, hgg, rfl, rfl, hmk, HD, HG⟩ := hrel
      have hgs := HG.out.size
      have hC2 : Ix.CapI wr bx id := ⟨(World.cell?_of_block (HG.out.block bx HC.out.lt (fun e => by injection e; omega))).trans HC.out.h, Nat.lt_of_lt_of_le HC.out.lt hgs⟩
      have hgl2 : g < wr.heap.size := Nat.lt_of_lt_of_le hglt hgs
      by_cases hlt : k < T.length
      · obtain ⟨y, hy⟩ : ∃ y, T[k]? = some y := ⟨_, List.getElem?_eq_getElem hlt⟩
        obtain ⟨u, hu⟩ := Ix.delL_low (id := id) hy
        have e0 := HD.out.cells k y (Ix.delL_at hy) 0 _ rfl
        have e1 := HD.out.cells k y (Ix.delL_at hy) 1 _ rfl
        have e2 := HD.out.cells k y (Ix.delL_at hy) 2 _ rfl
        have e3 := HD.out.cells k y (Ix.delL_at hy) 3 _ rfl
        rw [Nat.add_zero] at e0
        have HC2 := Lib.hid hC2
        have hltz : (k : Int) < (T.length : Int) := by omega
        have hone := ix_of1_c y bx id
        have hyD := Ix.delL_at (id := id) hy
        have hdt := Ix.dropT_take id hy
        have hNK := Ix.delL_keep (id := id) hy
        have hNS := Ix.delL_skip (id := id) hy
        have d0 := HD.out.cells _ u hu 0 _ rfl
        have d1 := HD.out.cells _ u hu 1 _ rfl
        have d2 := HD.out.cells _ u hu 2 _ rfl
        have d3 := HD.out.cells _ u hu 3 _ rfl
        rw [Nat.add_zero] at d0
        have HU := Lib.hid hu
        clear hu hyD hC2 hy
        generalize hL : (Ix.dropT (T.take k) id).length = m at *
        obtain ⟨wA, hwA⟩ : ∃ wA, wr.alloc (.cells #[.int .i64 y.1.fld, .string ⟨y.1.word.toArray⟩, .int .i64 y.1.id, .slice y.2.1 y.1.at_.length y.2.2] 52) = wA := ⟨_, rfl⟩
        have hBA : Below wr.heap.size wr wA := by rw [← hwA]; exact Tx.newb _ _
        have hsA : wA.heap.size = wr.heap.size + 1 := by rw [← hwA]; simp
        have b0 : wA.cell? ⟨wr.heap.size, 0, none⟩ = some (.int .i64 y.1.fld) := by rw [← hwA]; simp
        have b1 : wA.cell? ⟨wr.heap.size, 1, none⟩ = some (.string ⟨y.1.word.toArray⟩) := by rw [← hwA]; simp
        have b2 : wA.cell? ⟨wr.heap.size, 2, none⟩ = some (.int .i64 y.1.id) := by rw [← hwA]; simp
        have b3 : wA.cell? ⟨wr.heap.size, 3, none⟩ = some (.slice y.2.1 y.1.at_.length y.2.2) := by rw [← hwA]; simp
        have hcall : Calls Tryz.prog 85 #[.agg #[.int .i64 y.1.fld, .string ⟨y.1.word.toArray⟩, .int .i64 y.1.id, .slice y.2.1 y.1.at_.length y.2.2], .pointer (some ⟨bx, 0, none⟩)] wA fun e w' => e = .returned (.bool (y.1.id == id)) ∧ Below wA.heap.size wA w' := hone wA (HC2.out.below hBA)
        have HNK := Lib.hid hNK
        have HNS := Lib.hid hNS
        clear hone hNK hNS
        cases hq : (y.1.id == id) with
        | true =>
          rw [if_pos hq, List.append_nil] at hdt
          have HT := Lib.hid hdt
          have HQ := Lib.hid hq
          rw [hq] at hcall
          clear hq hdt
          go_wp2_with (go_at_call 85; ((with_reducible refine hcall.mono ?_); rintro e w2 ⟨rfl, hb2⟩))
          go_roundg (T.length - (k + 1))
          case measure => omega
          case rel =>
            have hb3 := hBA.trans (hb2.mono (by omega))
            refine ⟨k + 1, hlt, Nat.le_refl _, by go_num, by rw [HT.out, hL], by rw [HT.out, hL]; omega, Lib.hid ?_, Lib.hid (HG.out.trans ⟨hb3.os, hb3.tape, hb3.output, hb3.size, fun j hj _ => hb3.block j hj⟩)⟩
            rw [HNS.out HQ.out]
            exact HD.out.of_block (hb3.block g hgl2)
        | false =>
          rw [if_neg (by rw [hq]; decide)] at hdt
          have HT := Lib.hid hdt
          have HQ := Lib.hid hq
          rw [hq] at hcall
          clear hq hdt
          go_wp2_with (go_at_call 85; ((with_reducible refine hcall.mono ?_); rintro e w2 ⟨rfl, hb2⟩; have hb3 := hBA.trans (hb2.mono (by omega)); have hsz3 := hb3.size; have hsz2 := hb2.size; have HD3 := Lib.hid (HD.out.of_block (hb3.block g hgl2)); have fz := fun o => HD3.out.frozen o; have p0 := cell_later hb2 b0; have p1 := cell_later hb2 b1; have p2 := cell_later hb2 b2; have p3 := cell_later hb2 b3; have q0 := cell_later hb3 d0; have q1 := cell_later hb3 d1; have q2 := cell_later hb3 d2; have q3 := cell_later hb3 d3; have z0 := fz (m * 4); have z1 := fz (m * 4 + 1); have z2 := fz (m * 4 + 2); have z3 := fz (m * 4 + 3); have hml : (m : Int) < (T.length : Int) := by omega))
          go_roundg (T.length - (k + 1))
          case measure => omega
          case rel =>
            refine ⟨k + 1, hlt, Nat.le_refl _, by go_num, by rw [HT.out, List.length_append, hL]; go_num, by rw [HT.out, List.length_append, hL]; simp; omega, Lib.hid ?_, Lib.hid ?_⟩
            · rw [HNK.out HQ.out]
              exact HD3.out.set HU.out
            · exact (HG.out.trans (⟨hb3.os, hb3.tape, hb3.output, hb3.size, fun j hj _ => hb3.block j hj⟩ : wr.grownBy w2 (some g))).trans (Ix.grownBy_sets (Ix.encP y) (m * 4) w2)
      · obtain rfl : k = T.length := by omega
        have hLn := Ix.delL_len (id := id) (Nat.le_refl T.length)
        have hpre := fun j t => Ix.delL_pre (T := T) (id := id) (k := T.length) (j := j) (t := t)
        have HPre := Lib.hid hpre
        rw [List.take_length] at hmk
        rw [List.take_length] at HPre
        rw [List.take_length]
        have hltz : ¬ (T.length : Int) < (T.length : Int) := by omega
        generalize hD9 : Ix.dropT T id = D at *
        obtain ⟨vs, hvs, hcl⟩ := Ix.run_clear_posts wr g (D.length * 4) (T.length - D.length) (cap - D.length) _ HD.out (by omega) (fun j hj => HD.out.some (by rw [hLn]; omega))
        have HV := Lib.hid hvs
        have HL := Lib.hid hLn
        have H9 := Lib.hid hD9
        clear hpre hvs hLn hD9 hC2
        have hdc : (D.length : Int) ≤ (cap : Int) := by omega
        have hdT : (D.length : Int) ≤ (T.length : Int) := by omega
        have hTc : (T.length : Int) ≤ (cap : Int) := by omega
        go_wp2
        go_ret
        rw [H9.out]
        refine ⟨by simp, ⟨fun j t hj i u hu => ?_, Ix.blk_setCells _ _ _ HD.out.blk⟩, HG.out.trans (Ix.grownBy_sets _ _ _)⟩
        have hjl := (List.getElem?_eq_some_iff.1 hj).1
        have hi4 : i < 4 := (List.getElem?_eq_some_iff.1 hu).1
        rw [World.cell?_setCells_out g _ _ _ _ (fun _ _ => .inl (by show j * 4 + i < D.length * 4; omega))]
        exact HD.out.cells j t (HPre.out j t hj) i u hu
end Go.Proofs.YtcjalpegffldaaaGreatDoor
