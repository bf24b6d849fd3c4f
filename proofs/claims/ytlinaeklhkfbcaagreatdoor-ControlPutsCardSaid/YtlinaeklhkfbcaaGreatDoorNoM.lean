/- Plain: normalized headings, headings of fields; no program stands in this file. -/
import Derived.Test.YtlinaeklhkfbcaaGreatDoorHgM
import Derived.Test.YtlinaeklhkfbcaaGreatDoorTxD
import Derived.Test.YtlinaeklhkfbcaaGreatDoorFoX
import Derived.Test.YtlinaeklhkfbcaaGreatDoorKnA
import Derived.Test.YtlinaeklhkfbcaaGreatDoorRcC
namespace Go.Proofs.YtlinaeklhkfbcaaGreatDoor
namespace Tx
open Go.Lib
theorem clean_valid {l : List UInt8} (hv : valid l = true) : valid (clean l) = true := by
  have := foldT_ind cleanStep (fun st _ => valid st.1 = true) (fun st m hne hm ho => by
    unfold cleanStep
    split
    · exact ho
    · refine Rc.valid_app ?_ (valid_piece hne hm).1
      split
      · exact Rc.valid_app ho (by decide)
      · exact ho) l.length ([], false) l (Nat.le_refl _) hv rfl
  exact this
theorem lens_mem : ∀ {l : List (List UInt8)} {x : List UInt8}, x ∈ l → x.length ≤ lens l
  | y :: r, x, h => by
    rcases List.mem_cons.1 h with rfl | h
    · simp [lens]
    · have := lens_mem h
      simp [lens] at this ⊢
      omega
theorem words_good {l : List UInt8} (hv : valid l = true) : (∀ w ∈ words l, valid w = true ∧ w ≠ [] ∧ w.length ≤ 2 * l.length) ∧ (words l).length ≤ 2 * l.length := by
  have h1 := fieldsT_good sepW (foldS_valid hv)
  have h2 := foldS_len hv
  unfold words
  refine ⟨fun w hw => ⟨(h1.1 w hw).1, (h1.1 w hw).2, ?_⟩, by omega⟩
  have := lens_mem hw
  omega
end Tx
namespace Hd
open Go.Lib Rc
/-- The words of a part as one text. -/
def wj (p : By) : By := join (Tx.words p) [32]
theorem wj_len {p : By} (hv : Tx.valid p = true) : (wj p).length ≤ 2 * p.length * (2 * p.length + 1) := by
  have hg := Tx.words_good hv
  have h1 := join_le (Tx.words p) [32] (2 * p.length) (fun x hx => (hg.1 x hx).2.2)
  exact Nat.le_trans h1 (Nat.mul_le_mul hg.2 (Nat.le_refl _))
theorem wj_nil {p : By} (hv : Tx.valid p = true) : wj p = [] ↔ Tx.words p = [] := by
  unfold wj
  constructor
  · intro h
    match hw : Tx.words p with
    | [] => rfl
    | x :: r =>
      rw [hw] at h
      exact absurd h (Tx.join_ne x r [32] ((Tx.words_good hv).1 x (by rw [hw]; simp)).2.1)
  · intro h; rw [h]; rfl
theorem norm_eq (s : By) : norm s = join (((parts s).map wj).filter fun p => p != []) [45, 45] := rfl
theorem parts_good {s : By} (hv : Tx.valid s = true) : (∀ p ∈ parts s, Tx.valid p = true ∧ p ≠ [] ∧ p.length ≤ 2 * s.length) ∧ (parts s).length ≤ s.length + 1 := by
  have h1 := split_valid (sep := [45, 45]) (by simp) (by decide) s.length s (Nat.le_refl _) hv
  have h2 := split_count (sep := [45, 45]) (by simp) s.length s (Nat.le_refl _)
  unfold parts
  constructor
  · intro p hp
    rw [List.mem_filter] at hp
    obtain ⟨hp, hne⟩ := hp
    obtain ⟨q, hq, rfl⟩ := List.mem_map.1 hp
    have h3 := h1 q hq
    have h4 := Tx.clean_len q
    exact ⟨Tx.clean_valid h3.1, by simpa using hne, by omega⟩
  · refine Nat.le_trans (List.length_filter_le _ _) ?_
    rw [List.length_map]
    exact h2
theorem norm_take {xs : List ByteArray} {k : Nat} {x : ByteArray} (h : xs[k]? = some x) (l : List By) (hl : l = (((xs.take k).map (·.data.toList)).map wj).filter fun p => p != []) :
    (((xs.take (k + 1)).map (·.data.toList)).map wj).filter (fun p => p != []) = if wj x.data.toList = [] then l else l ++ [wj x.data.toList] := by
  rw [List.take_add_one, h, List.map_append, List.map_append, List.filter_append, ← hl]
  by_cases hc : wj x.data.toList = []
  · simp [hc]
  · simp [hc]
end Hd
namespace Rc
theorem Gd.get_le {f : Fl} (h : Gd f) {c : UInt8} {d : ByteArray} (hd : get f.subs c = some d) : d.size ≤ 100000 := by
  unfold get at hd
  cases hf : f.subs.find? (fun x => x.1 == c) with
  | none => rw [hf] at hd; cases hd
  | some x =>
    rw [hf] at hd
    injection hd with hd
    subst hd
    exact (h.2 x (List.mem_of_find?_eq_some hf)).1
end Rc
namespace Ct
open Go.Lib Rc
/-- The heading of a field. -/
def headingF (f : Fl) : By :=
  if kindOf f.tag.data.toList = 1 then (match get f.subs 100 with
    | some d => plain f.subs [97] ++ ([44, 32] ++ d.data.toList)
    | none => plain f.subs [97])
  else if kindOf f.tag.data.toList = 3 then join (bys (allV f.subs [97, 120, 121, 122])) [45, 45]
  else if kindOf f.tag.data.toList = 0 then []
  else ((get f.subs 97).getD ⟨#[]⟩).data.toList
theorem heading_1s {f : Fl} {d : ByteArray} (hk : kindOf f.tag.data.toList = 1) (h : get f.subs 100 = some d) : headingF f = plain f.subs [97] ++ ([44, 32] ++ d.data.toList) := by
  unfold headingF; rw [if_pos hk, h]
theorem heading_1n {f : Fl} (hk : kindOf f.tag.data.toList = 1) (h : get f.subs 100 = none) : headingF f = plain f.subs [97] := by
  unfold headingF; rw [if_pos hk, h]
theorem heading_3 {f : Fl} (hk : kindOf f.tag.data.toList = 3) : headingF f = join (bys (allV f.subs [97, 120, 121, 122])) [45, 45] := by
  unfold headingF; rw [if_neg (by omega), if_pos hk]
theorem heading_0 {f : Fl} (hk : kindOf f.tag.data.toList = 0) : headingF f = [] := by
  unfold headingF; rw [if_neg (by omega), if_neg (by omega), if_pos hk]
theorem heading_o {f : Fl} {k : Int} (hk : kindOf f.tag.data.toList = k) (h1 : k ≠ 1) (h3 : k ≠ 3) (h0 : k ≠ 0) : headingF f = ((get f.subs 97).getD ⟨#[]⟩).data.toList := by
  unfold headingF; rw [hk, if_neg h1, if_neg h3, if_neg h0]
end Ct
end Go.Proofs.YtlinaeklhkfbcaaGreatDoor

/- The program's Norm of a heading and Heading of a field: what the calls return. -/
namespace Go.Proofs.YtlinaeklhkfbcaaGreatDoor
open Go.RowKit
set_option maxRecDepth 100000

set_option maxHeartbeats 1600000 in
theorem heading_Norm_c (s : ByteArray) (w : World) (hs : s.size ≤ 1000) (hv : Tx.valid s.data.toList = true) (hG : G w) :
    Calls Tryz.prog 86 #[.string s] w fun e w' => e = .returned (.string ⟨(Hd.norm s.data.toList).toArray⟩) ∧ Below w.heap.size w w' := by
  obtain ⟨i0, hi0, hz0, hz1, hz2⟩ := info_parts info_str
  have hpg := Hd.parts_good hv
  rw [← Lib.size_eq] at hpg
  have HPG := Lib.hid hpg.1
  have hpl := hpg.2
  have HV := Lib.hid hv; clear hv hpg
  obtain ⟨M, hM⟩ : ∃ M : Nat, M = 4000 * 4001 := ⟨_, rfl⟩
  have HM := Lib.hid hM; clear hM
  go_enter Tryz.func86, Tryz.ntmps86
  go_wp2_with (go_at_call 31; refine (heading_Parts_c s _ (by omega) HV.out hG).mono ?_; rintro e w1 ⟨a, c, xs, rfl, hxs, hA, hb1⟩; have hcap := hA.cap; have hmx := hA.max; have HX := Lib.hid hxs; clear hxs)
  have hml : maxLen = 9223372036854775807 := rfl
  have hxl : xs.length ≤ s.size + 1 := by
    rw [← show xs.map (·.data.toList) = Hd.parts s.data.toList from HX.out, List.length_map] at hpl
    exact hpl
  have hb1s := hb1.size
  clear hpl
  go_loopw [3, 10] (fun v i wr => ∃ (k : Nat) (L : List ByteArray), k ≤ xs.length ∧ i = .int .i64 k ∧ Hid (L.map (·.data.toList) = (((xs.take k).map (·.data.toList)).map Hd.wj).filter fun p => p != []) ∧ L.length ≤ k ∧ Hid (∀ y ∈ L, y.data.toList.length ≤ M) ∧ wr.ownsRow w1.heap.size 9 1 v L.length (L.map Value.string) ∧ Below w1.heap.size w1 wr) (fun _ i _ => xs.length - (intOf i).toNat)
  case atStart => exact ⟨0, [], Nat.zero_le _, rfl, Lib.hid rfl, Nat.le_refl _, Lib.hid (by simp), World.ownsRow_nil _ _ _ _, Below.refl _ _⟩
  case round =>
    obtain ⟨k, L, hk, rfl, hL, hLk, hLb, hown, hb⟩ := hrel
    have hbs := hb.size
    by_cases hlt : k < xs.length
    · obtain ⟨x, hx⟩ : ∃ x, xs[k]? = some x := ⟨_, List.getElem?_eq_getElem hlt⟩
      obtain ⟨b, o, rfl, hbl, c0⟩ := hA.get hx
      replace c0 := cell_later hb c0
      have hxv := HPG.out x.data.toList (by rw [← show xs.map (·.data.toList) = Hd.parts s.data.toList from HX.out]; exact List.mem_map.2 ⟨x, List.mem_of_getElem? hx, rfl⟩)
      obtain ⟨hxv, -, hxs⟩ := hxv
      have hwl := Hd.wj_len hxv
      have hwl2 : (Hd.wj x.data.toList).length ≤ M := by rw [HM.out]; exact Nat.le_trans hwl (Nat.mul_le_mul (by omega) (by omega))
      have hwn := Hd.wj_nil hxv
      have hwc := (Tx.words_good hxv).2
      rw [← Lib.size_eq] at hxs hwc
      have hct := Hd.norm_take hx _ hL.out
      have hGr := hG.below (Tx.step hb1 hb)
      have HXV := Lib.hid hxv; clear hxv hwl hx
      by_cases hc : Tx.words x.data.toList = []
      · rw [if_pos (hwn.2 hc)] at hct
        have HT := Lib.hid hct; clear hct hwl2
        have HC := Lib.hid hc; clear hc hwn
        go_wp2_with (go_at_call 119; refine (text_Words_c x _ hGr (by omega) HXV.out).mono ?_; rintro e w2 ⟨A, ws, rfl, hws, hWA, hAl, hb2⟩; rw [HC.out] at hws; have hw0 := List.map_eq_nil_iff.1 hws; subst hw0; clear hws)
        have hown2 := own_below hown hb2
        go_roundw
        case rel => exact ⟨k + 1, L, by omega, by go_num, Lib.hid (by rw [HT.out]), by omega, hLb, hown2, Tx.step hb hb2⟩
        case measure => simp [intOf]; omega
      · rw [if_neg (fun h => hc (hwn.1 h))] at hct
        obtain ⟨y, hy⟩ : ∃ y : ByteArray, (⟨(Hd.wj x.data.toList).toArray⟩ : ByteArray) = y := ⟨_, rfl⟩
        have hyd : Hd.wj x.data.toList = y.data.toList := by rw [← hy]
        rw [hyd] at hct hwl2
        have HT := Lib.hid hct; clear hct
        have HY := Lib.hid hy; clear hy
        have HC := Lib.hid hc; clear hc hwn
        have HYL := Lib.hid hwl2
        have HWJ : Hid ((Lib.join (Tx.words x.data.toList) [32]).length ≤ 140737488355328) := Lib.hid (by rw [show Lib.join (Tx.words x.data.toList) [32] = Hd.wj x.data.toList from rfl, hyd]; have h5 := HM.out; omega)
        clear hwl2 hyd
        go_wp2_with (first
          | (go_at_call 119; refine (text_Words_c x _ hGr (by omega) HXV.out).mono ?_; rintro e w2 ⟨A, ws, rfl, hws, hWA, hAl, hb2⟩; have hwl : Hid (ws.length = (Tx.words x.data.toList).length) := Lib.hid (by rw [← hws, List.length_map]); have hwp : 0 < ws.length := (by rw [hwl.out]; exact List.length_pos_iff.2 HC.out); have hwq : ws.length ≤ 4000 := (by rw [hwl.out]; omega); have HWS := Lib.hid hws; clear hws)
          | (go_at_call 51; refine (Join_c _ ws ⟨#[32]⟩ _ hWA.sl (by rw [HWS.out]; exact HWJ.out) (by omega)).mono ?_; rintro e w3 ⟨rfl, hb3⟩; rw [show (⟨(Lib.join (ws.map (·.data.toList)) (⟨#[32]⟩ : ByteArray).data.toList).toArray⟩ : ByteArray) = y from (by rw [HWS.out]; exact HY.out)]; have hb23 := Tx.step hb2 hb3; have hown2 := own_below hown hb23; have hbw := Tx.step hb hb23; have hbws := hbw.size)
          | (at_builtin; go_must (refine wpList_append_own _ rfl _ _ 54 rfl w1.heap.size 9 i0 (.string ⟨#[]⟩) 1 16 Tryz.underlying54 hi0 hz0 hz1 hz2 rfl (by decide) _ L.length _ rfl (hown2.alloc _) ⟨_, 0, none⟩ 1 1 [.string y] rfl rfl (Tx.cell_one_at _ _ (by first | rfl | simp) _ _) (by simp [Value.oneCell']) (by unfold maxLen; omega) (by omega) (by simp; omega) ?_); intro v' w4 hown4 hg4 hnil4))
        have hb4 : Below w1.heap.size w1 w4 := (hbw.alloc hbws _).grown hg4 (by simp; omega) (fun j hj => (hown2.lt j hj).1)
        have hLb2 : Hid (∀ z ∈ L ++ [y], z.data.toList.length ≤ M) := Lib.hid (fun z hz => by
          rcases List.mem_append.1 hz with h9 | h9
          · exact hLb.out z h9
          · simp at h9; rw [h9]; exact HYL.out)
        go_roundw
        case rel => exact ⟨k + 1, L ++ [y], by omega, by go_num, Lib.hid (by rw [HT.out, List.map_append]; rfl), by simp; omega, hLb2, by simpa using hown4, hb4⟩
        case measure => simp [intOf]; omega
    · obtain rfl : k = xs.length := by omega
      have hL2 := hL.out
      rw [List.take_length] at hL2
      have hL3 : Hid (Lib.join (L.map (·.data.toList)) [45, 45] = Hd.norm s.data.toList) := Lib.hid (by
        rw [hL2, Hd.norm_eq, ← show xs.map (·.data.toList) = Hd.parts s.data.toList from HX.out])
      have hjl : (Lib.join (L.map (·.data.toList)) [45, 45]).length ≤ 140737488355328 := by
        have h1 := Rc.join_le (L.map (·.data.toList)) [45, 45] M (fun q hq => by
          obtain ⟨z, hz, rfl⟩ := List.mem_map.1 hq
          exact hLb.out z hz)
        rw [List.length_map] at h1
        have h2 : L.length * (M + 2) ≤ 1001 * (M + 2) := Nat.mul_le_mul (by omega) (Nat.le_refl _)
        have h3 : (Lib.join (L.map (·.data.toList)) [45, 45]).length ≤ L.length * (M + 2) := h1
        have h5 := HM.out
        omega
      have HJL := Lib.hid hjl
      clear hL2 hL hjl
      have hsl := SL.of_own hown rfl
      go_wp2_with (go_at_call 51; refine (Join_c _ L ⟨#[45, 45]⟩ _ hsl HJL.out (by omega)).mono ?_; rintro e w3 ⟨rfl, hb3⟩)
      go_ret
      exact ⟨Tx.rets (by rw [← hL3.out]), Tx.step hb1 (Tx.step hb hb3)⟩

set_option maxHeartbeats 1600000 in
theorem control_Heading_c (f : Rc.Fl) (a : Option Addr) (c : Nat) (w : World) (hS : Ct.StdW w) (h : Rc.SubA w a c f.subs) (hg : Rc.Gd f) :
    Calls Tryz.prog 26 #[.agg #[.string f.tag, .string f.ind, .slice a f.subs.length c, .int .i64 f.auth]] w fun e w' => e = .returned (.string ⟨(Ct.headingF f).toArray⟩) ∧ Below w.heap.size w w' := by
  obtain ⟨W, hW⟩ : ∃ W, w.alloc (.cells #[.string f.tag, .string f.ind, .slice a f.subs.length c, .int .i64 f.auth] 24) = W := ⟨_, rfl⟩
  have hB : Below w.heap.size w W := by rw [← hW]; exact Tx.newb _ _
  have kb : W.heap[w.heap.size]? = some (.cells #[.string f.tag, .string f.ind, .slice a f.subs.length c, .int .i64 f.auth] 24 (0, 0)) := by rw [← hW]; exact heap_alloc_new _ _
  have HW := Lib.hid hW; clear hW
  have hA := h.below hB
  have hSW : Ct.StdW W := Br.FA.below hS hB
  have hcap := h.cap
  have hmax := h.max
  have hml : maxLen = 9223372036854775807 := rfl
  have HG := Lib.hid hg; clear hg
  obtain ⟨K, hK⟩ : ∃ K, Ct.kindOf f.tag.data.toList = K := ⟨_, rfl⟩
  have hKr := Ct.kind_range f.tag.data.toList
  rw [hK] at hKr
  rcases (show K = 0 ∨ K = 1 ∨ (K = 2 ∨ K = 4) ∨ K = 3 by omega) with rfl | rfl | hK2 | rfl
  · have HH := Lib.hid (Ct.heading_0 hK)
    have HK := Lib.hid hK; clear hK
    go_enter Tryz.func26, Tryz.ntmps26
    go_wp2_with (go_at_call 25; rw [HW.out]; refine (control_Kind_c f.tag W hSW).mono ?_; rintro e w1 ⟨rfl, hb1⟩; rw [HK.out]; obtain ⟨bc1, bf1, bl1⟩ := Tx.blk (Tx.blk_later kb hb1))
    go_ret
    exact ⟨Tx.rets (by rw [HH.out]), Tx.step hB hb1⟩
  · have hpl := HG.out.plain_le [97]
    obtain ⟨p, hp⟩ : ∃ p : ByteArray, (⟨(Rc.plain f.subs [97]).toArray⟩ : ByteArray) = p := ⟨_, rfl⟩
    have hpd : Rc.plain f.subs [97] = p.data.toList := by rw [← hp]
    rw [hpd, ← Lib.size_eq] at hpl
    have HP := Lib.hid hp; clear hp
    cases hd : Rc.get f.subs 100 with
    | none =>
      have HH := Lib.hid (Ct.heading_1n hK hd)
      have HPD := Lib.hid hpd; clear hpd
      have HK := Lib.hid hK; clear hK
      have HD := Lib.hid hd; clear hd
      go_enter Tryz.func26, Tryz.ntmps26
      go_wp2_with (first
        | (go_at_call 25; rw [HW.out]; refine (control_Kind_c f.tag W hSW).mono ?_; rintro e w1 ⟨rfl, hb1⟩; rw [HK.out]; obtain ⟨bc1, bf1, bl1⟩ := Tx.blk (Tx.blk_later kb hb1))
        | (go_at_call 49; refine (field_Plain_c f a c ⟨#[97]⟩ _ (hA.below hb1) HG.out).mono ?_; rintro e w2 ⟨rfl, hb2⟩; rw [show (⟨(Rc.plain f.subs (⟨#[97]⟩ : ByteArray).data.toList).toArray⟩ : ByteArray) = p from HP.out]; have hb12 := Tx.step hb1 hb2; obtain ⟨bc2, bf2, bl2⟩ := Tx.blk (Tx.blk_later kb hb12))
        | (go_at_call 50; refine (field_Get_c f a c 100 _ (hA.below hb12)).mono ?_; rintro e w3 ⟨rfl, hb3⟩; rw [HD.out]; have hb13 := Tx.step hb12 hb3))
      go_ret
      exact ⟨Tx.rets (by rw [HH.out, HPD.out]), Tx.step hB hb13⟩
    | some d =>
      have HH := Lib.hid (Ct.heading_1s hK hd)
      have HPD := Lib.hid hpd; clear hpd
      have HK := Lib.hid hK; clear hK
      have hds := HG.out.get_le hd
      have HD := Lib.hid hd; clear hd
      obtain ⟨a1, -⟩ := Tx.adds_ok Tryz.prog [d] ⟨#[44, 32]⟩ (by have h2 : (⟨#[44, 32]⟩ : ByteArray).size = 2 := rfl; simp only [List.map_cons, List.map_nil, List.sum_cons, List.sum_nil]; omega)
      obtain ⟨a2, -⟩ := Tx.adds_ok Tryz.prog [⟨#[44, 32]⟩ ++ d] p (by have h2 : (⟨#[44, 32]⟩ : ByteArray).size = 2 := rfl; simp only [List.map_cons, List.map_nil, List.sum_cons, List.sum_nil, ByteArray.size_append]; omega)
      go_enter Tryz.func26, Tryz.ntmps26
      go_wp2_with (first
        | (go_at_call 25; rw [HW.out]; refine (control_Kind_c f.tag W hSW).mono ?_; rintro e w1 ⟨rfl, hb1⟩; rw [HK.out]; obtain ⟨bc1, bf1, bl1⟩ := Tx.blk (Tx.blk_later kb hb1))
        | (go_at_call 49; refine (field_Plain_c f a c ⟨#[97]⟩ _ (hA.below hb1) HG.out).mono ?_; rintro e w2 ⟨rfl, hb2⟩; rw [show (⟨(Rc.plain f.subs (⟨#[97]⟩ : ByteArray).data.toList).toArray⟩ : ByteArray) = p from HP.out]; have hb12 := Tx.step hb1 hb2; obtain ⟨bc2, bf2, bl2⟩ := Tx.blk (Tx.blk_later kb hb12))
        | (go_at_call 50; refine (field_Get_c f a c 100 _ (hA.below hb12)).mono ?_; rintro e w3 ⟨rfl, hb3⟩; rw [HD.out]; have hb13 := Tx.step hb12 hb3))
      go_ret
      exact ⟨Tx.rets (by rw [HH.out, HPD.out]; apply ByteArray.ext; simp), Tx.step hB hb13⟩
  · rcases hK2 with rfl | rfl
    all_goals
      have HH := Lib.hid (Ct.heading_o hK (by decide) (by decide) (by decide))
      have HK := Lib.hid hK; clear hK
      go_enter Tryz.func26, Tryz.ntmps26
      go_wp2_with (first
        | (go_at_call 25; rw [HW.out]; refine (control_Kind_c f.tag W hSW).mono ?_; rintro e w1 ⟨rfl, hb1⟩; rw [HK.out]; obtain ⟨bc1, bf1, bl1⟩ := Tx.blk (Tx.blk_later kb hb1))
        | (go_at_call 50; refine (field_Get_c f a c 97 _ (hA.below hb1)).mono ?_; rintro e w3 ⟨rfl, hb3⟩))
      go_ret
      exact ⟨Tx.rets (by rw [HH.out]), Tx.step hB (Tx.step hb1 hb3)⟩
  · have hjl := HG.out.join_le [97, 120, 121, 122] [45, 45] (by decide)
    have HH := Lib.hid (Ct.heading_3 hK)
    have HK := Lib.hid hK; clear hK
    have hal := (HG.out.all [97, 120, 121, 122]).1
    have HJL := Lib.hid hjl; clear hjl
    go_enter Tryz.func26, Tryz.ntmps26
    go_wp2_with (first
      | (go_at_call 25; rw [HW.out]; refine (control_Kind_c f.tag W hSW).mono ?_; rintro e w1 ⟨rfl, hb1⟩; rw [HK.out]; obtain ⟨bc1, bf1, bl1⟩ := Tx.blk (Tx.blk_later kb hb1))
      | (go_at_call 52; refine (field_All_c f a c ⟨#[97, 120, 121, 122]⟩ _ (hA.below hb1) HG.out.1).mono ?_; rintro e w2 ⟨v, rfl, hs2, hb2⟩)
      | (go_at_call 51; refine (Join_c v _ ⟨#[45, 45]⟩ _ hs2 (Nat.le_trans HJL.out (by omega)) (by omega)).mono ?_; rintro e w3 ⟨rfl, hb3⟩))
    go_ret
    exact ⟨Tx.rets (by rw [HH.out]; rfl), Tx.step hB (Tx.step hb1 (Tx.step hb2 hb3))⟩
end Go.Proofs.YtlinaeklhkfbcaaGreatDoor
