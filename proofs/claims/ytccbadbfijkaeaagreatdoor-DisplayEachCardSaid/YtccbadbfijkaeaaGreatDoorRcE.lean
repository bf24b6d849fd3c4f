/- What the program's Title, Author and Year return. -/
import Derived.Test.YtccbadbfijkaeaaGreatDoorRcD
namespace Go.Proofs.YtccbadbfijkaeaaGreatDoor
open Go.RowKit
set_option maxRecDepth 100000

/-- The slice holds these strings. -/
structure SLA (w : World) (a : Option Addr) (c : Nat) (xs : List ByteArray) : Prop where
  cap : xs.length ≤ c
  max : c ≤ maxLen
  at_ : ∃ b o, (xs ≠ [] → a = some ⟨b, o, none⟩ ∧ b < w.heap.size) ∧ ∀ (j : Nat) x, xs[j]? = some x → w.cell? ⟨b, o + j, none⟩ = some (.string x)
theorem SLA.below {w w' : World} {a : Option Addr} {c : Nat} {xs : List ByteArray} (h : SLA w a c xs) (hb : Below w.heap.size w w') : SLA w' a c xs := by
  obtain ⟨b, o, h1, h2⟩ := h.at_
  exact ⟨h.cap, h.max, b, o, fun hn => ⟨(h1 hn).1, Nat.lt_of_lt_of_le (h1 hn).2 hb.size⟩, fun j x hx => cell_later hb (h2 j x hx)⟩
theorem SLA.get {w : World} {a : Option Addr} {c : Nat} {xs : List ByteArray} (h : SLA w a c xs) {k : Nat} {x : ByteArray} (hk : xs[k]? = some x) :
    ∃ b o, a = some ⟨b, o, none⟩ ∧ b < w.heap.size ∧ w.cell? ⟨b, o + k, none⟩ = some (.string x) := by
  obtain ⟨b, o, h1, h2⟩ := h.at_
  have hne : xs ≠ [] := by intro h0; subst h0; simp at hk
  exact ⟨b, o, (h1 hne).1, (h1 hne).2, h2 k x hk⟩
theorem SLA.of_own {w : World} {B e n : Nat} {v : Value} {xs : List ByteArray} {ys : List Value} (h : w.ownsRow B e 1 v n ys) (hy : ys = xs.map Value.string) : ∃ a c, v = .slice a xs.length c ∧ SLA w a c xs := by
  subst hy
  have hn : n = xs.length := by have := h.1; simp at this; omega
  subst hn
  rcases h.2 with ⟨rfl, h0⟩ | ⟨g, cap, cur, rfl, hb, hg, h1, h2, _⟩
  · rw [h0]
    have := List.eq_nil_of_length_eq_zero h0
    subst this
    exact ⟨none, 0, rfl, by simp, by simp, 0, 0, fun h => absurd rfl h, fun j x hx => by simp at hx⟩
  · exact ⟨_, cap, rfl, h1, h2, g, 0, fun _ => ⟨rfl, (Array.getElem?_eq_some_iff.1 hg).1⟩, fun j x hx => by
      have hj : j < xs.length := (List.getElem?_eq_some_iff.1 hx).1
      rw [Nat.zero_add, h.cellAt j (by omega), List.getElem?_map, hx]
      rfl⟩
theorem SLA.sl {w : World} {a : Option Addr} {c : Nat} {xs : List ByteArray} (h : SLA w a c xs) : SL w (.slice a xs.length c) xs := by
  by_cases hne : xs = []
  · subst hne
    exact .inl ⟨rfl, a, c, rfl⟩
  · obtain ⟨b, o, h1, h2⟩ := h.at_
    obtain ⟨rfl, hb⟩ := h1 hne
    exact .inr ⟨b, o, c, rfl, h.cap, h.max, hb, h2⟩
theorem SL.sla {w : World} {v : Value} {xs : List ByteArray} (h : SL w v xs) : ∃ a c, v = .slice a xs.length c ∧ (xs ≠ [] → SLA w a c xs) := by
  rcases h with ⟨rfl, a, c, rfl⟩ | ⟨b, o, c, rfl, h1, h2, h3, h4⟩
  · exact ⟨a, c, rfl, fun h => absurd rfl h⟩
  · exact ⟨_, c, rfl, fun _ => ⟨h1, h2, b, o, fun _ => ⟨rfl, h3⟩, h4⟩⟩

namespace Rc
def authorL (fs : List Fl) : List By → By
  | [] => []
  | t :: r => match authorT fs t with
    | some v => v.data.toList
    | none => authorL fs r
def tags3 : List By := [[49, 48, 48], [49, 49, 48], [55, 48, 48]]
theorem author_L (fs : List Fl) : author fs = authorL fs tags3 := by
  unfold author tags3
  simp only [authorL]
  cases authorT fs [49, 48, 48] with
  | some v => rfl
  | none =>
    cases authorT fs [49, 49, 48] with
    | some v => rfl
    | none => cases authorT fs [55, 48, 48] <;> rfl
theorem firstNZ_step {l : List Nat} {k : Nat} {n : Nat} (h : l[k]? = some n) : firstNZ (l.drop k) = if n = 0 then firstNZ (l.drop (k + 1)) else n := by
  have hk : k < l.length := (List.getElem?_eq_some_iff.1 h).1
  rw [List.drop_eq_getElem_cons hk]
  have : l[k]'hk = n := (List.getElem?_eq_some_iff.1 h).2
  rw [this]
  rfl
theorem all_size {f : Fl} (h : Gd f) (c : By) {x : ByteArray} (hx : x ∈ allV f.subs c) : x.size ≤ 100000 := by
  obtain ⟨y, hy, rfl⟩ := allV_mem hx
  exact (h.2 y hy).1
end Rc

set_option maxHeartbeats 800000 in
theorem record_Title_c (fs : List Rc.Fl) (a : Option Addr) (c : Nat) (id ver kind : Int) (lang : ByteArray) (w : World) (h : Rc.FldA w a c fs) (hg : ∀ f ∈ fs, Rc.Gd f) :
    Calls Tryz.prog 60 #[.agg #[.int .i64 id, .int .i64 ver, .int .i64 kind, .string lang, .slice a fs.length c]] w fun e w' => e = .returned (.string ⟨(Rc.title fs).toArray⟩) ∧ Below w.heap.size w w' := by
  have hB := Tx.newb w (.cells #[.int .i64 id, .int .i64 ver, .int .i64 kind, .string lang, .slice a fs.length c] 24)
  have h1 := h.below hB
  cases hf : Rc.first fs [50, 52, 53] with
  | none =>
    have hT : Rc.title fs = [] := by unfold Rc.title; rw [hf]
    have HT := Lib.hid hT; clear hT
    have HF := Lib.hid hf; clear hf
    go_enter Tryz.func60, Tryz.ntmps60
    go_wp2_with (go_at_call 61; refine (record_first_c fs a c id ver kind lang ⟨#[50, 52, 53]⟩ _ h1).mono ?_; rintro e w1 ⟨hr, hb1⟩; have hr2 : Rc.FirstR w1 e (Rc.first fs [50, 52, 53]) := hr; clear hr; rw [HF.out] at hr2; obtain rfl := hr2)
    go_ret
    rw [HT.out]
    exact ⟨rfl, (Tx.step hB hb1).alloc (Tx.step hB hb1).size _⟩
  | some f =>
    have hgf := hg f (Rc.first_mem hf)
    have hT : Rc.title fs = Tx.clean (Rc.plain f.subs [97, 98]) := by unfold Rc.title; rw [hf]
    have hpl := hgf.plain_le [97, 98]
    have hpv := hgf.plain_valid [97, 98]
    have HT := Lib.hid hT; clear hT
    have HF := Lib.hid hf; clear hf
    have HG := Lib.hid hgf; clear hgf hg
    have HV := Lib.hid hpv; clear hpv
    go_enter Tryz.func60, Tryz.ntmps60
    go_wp2_with (first
      | (go_at_call 61; refine (record_first_c fs a c id ver kind lang ⟨#[50, 52, 53]⟩ _ h1).mono ?_; rintro e w1 ⟨hr, hb1⟩; have hr2 : Rc.FirstR w1 e (Rc.first fs [50, 52, 53]) := hr; clear hr; rw [HF.out] at hr2; obtain ⟨sa, sc, rfl, hsub⟩ := hr2)
      | (go_at_call 45; refine (field_Plain_c f sa sc ⟨#[97, 98]⟩ _ (hsub.below (Tx.newb _ _)) HG.out).mono ?_; rintro e w2 ⟨rfl, hb2⟩)
      | (go_at_call 92; refine (text_Clean_c _ _ (by rw [Tx.size_mk]; exact Nat.le_trans hpl (by omega)) HV.out).mono ?_; rintro e w3 ⟨rfl, hb3⟩))
    go_ret
    rw [HT.out]
    exact ⟨rfl, Tx.step (Tx.step ((Tx.step hB hb1).alloc (Tx.step hB hb1).size _) hb2) hb3⟩

set_option maxHeartbeats 1600000 in
theorem record_Author_c (fs : List Rc.Fl) (a : Option Addr) (c : Nat) (id ver kind : Int) (lang : ByteArray) (w : World) (h : Rc.FldA w a c fs) :
    Calls Tryz.prog 32 #[.agg #[.int .i64 id, .int .i64 ver, .int .i64 kind, .string lang, .slice a fs.length c]] w fun e w' => e = .returned (.string ⟨(Rc.author fs).toArray⟩) ∧ Below w.heap.size w w' := by
  obtain ⟨W, hW⟩ : ∃ W, (w.alloc (.cells #[.int .i64 id, .int .i64 ver, .int .i64 kind, .string lang, .slice a fs.length c] 24)).alloc (.cells #[.string ⟨#[49, 48, 48]⟩, .string ⟨#[49, 49, 48]⟩, .string ⟨#[55, 48, 48]⟩] 9) = W := ⟨_, rfl⟩
  have hB : Below w.heap.size w W := by rw [← hW]; exact (Tx.newb _ _).alloc (Tx.newb w _).size _
  have s0 : W.cell? ⟨w.heap.size, 0, none⟩ = some (.int .i64 id) := by rw [← hW]; simp
  have s1 : W.cell? ⟨w.heap.size, 1, none⟩ = some (.int .i64 ver) := by rw [← hW]; simp
  have s2 : W.cell? ⟨w.heap.size, 2, none⟩ = some (.int .i64 kind) := by rw [← hW]; simp
  have s3 : W.cell? ⟨w.heap.size, 3, none⟩ = some (.string lang) := by rw [← hW]; simp
  have s4 : W.cell? ⟨w.heap.size, 4, none⟩ = some (.slice a fs.length c) := by rw [← hW]; simp
  have t0 : W.cell? ⟨w.heap.size + 1, 0, none⟩ = some (.string ⟨#[49, 48, 48]⟩) := by rw [← hW]; simp
  have t1 : W.cell? ⟨w.heap.size + 1, 1, none⟩ = some (.string ⟨#[49, 49, 48]⟩) := by rw [← hW]; simp
  have t2 : W.cell? ⟨w.heap.size + 1, 2, none⟩ = some (.string ⟨#[55, 48, 48]⟩) := by rw [← hW]; simp
  have h1 := h.below hB
  go_enter Tryz.func32, Tryz.ntmps32
  go_wp2
  clear hW
  go_loopw [11] (fun i wr => ∃ (k : Nat), k ≤ 3 ∧ i = .int .i64 k ∧ Hid (Rc.authorL fs (Rc.tags3.drop k) = Rc.author fs) ∧ Below W.heap.size W wr) (fun i _ => 3 - (intOf i).toNat)
  case atStart => exact ⟨0, by omega, rfl, Lib.hid (by rw [Rc.author_L]; rfl), Below.refl _ _⟩
  case round =>
    obtain ⟨k, hk, rfl, hA, hb⟩ := hrel
    replace s0 := cell_later hb s0
    replace s1 := cell_later hb s1
    replace s2 := cell_later hb s2
    replace s3 := cell_later hb s3
    replace s4 := cell_later hb s4
    replace t0 := cell_later hb t0
    replace t1 := cell_later hb t1
    replace t2 := cell_later hb t2
    have h2 := h1.below hb
    by_cases hlt : k < 3
    · obtain ⟨T, hT, hTd⟩ : ∃ T : ByteArray, wr.cell? ⟨w.heap.size + 1, k, none⟩ = some (.string T) ∧ Rc.authorL fs (Rc.tags3.drop k) = (match Rc.authorT fs T.data.toList with | some v => v.data.toList | none => Rc.authorL fs (Rc.tags3.drop (k + 1))) := by
        rcases (show k = 0 ∨ k = 1 ∨ k = 2 by omega) with rfl | rfl | rfl
        · exact ⟨_, t0, rfl⟩
        · exact ⟨_, t1, rfl⟩
        · exact ⟨_, t2, rfl⟩
      clear t0 t1 t2
      rw [hA.out] at hTd
      cases hf : Rc.first fs T.data.toList with
      | none =>
        have hat : Rc.authorT fs T.data.toList = none := by unfold Rc.authorT; rw [hf]; rfl
        rw [hat] at hTd
        have HT := Lib.hid hTd; clear hTd hat
        have HF := Lib.hid hf; clear hf
        go_wp2_with (go_at_call 61; refine (record_first_c fs a c id ver kind lang T _ h2).mono ?_; rintro e w1 ⟨hr2, hb1⟩; rw [HF.out] at hr2; obtain rfl := hr2)
        have hb3 := (Tx.step hb hb1).alloc (Tx.step hb hb1).size (.cells #[.string ⟨#[]⟩, .string ⟨#[]⟩, .slice none 0 0, .int .i64 0] 42)
        go_roundw
        case rel => exact ⟨k + 1, by omega, by go_num, Lib.hid HT.out.symm, hb3⟩
        case measure => simp [intOf]; omega
      | some f =>
        cases hgt : Rc.get f.subs 97 with
        | none =>
          have hat : Rc.authorT fs T.data.toList = none := by unfold Rc.authorT; rw [hf]; exact hgt
          rw [hat] at hTd
          have HT := Lib.hid hTd; clear hTd hat
          have HF := Lib.hid hf; clear hf
          have HGT := Lib.hid hgt; clear hgt
          go_wp2_with (first
            | (go_at_call 61; refine (record_first_c fs a c id ver kind lang T _ h2).mono ?_; rintro e w1 ⟨hr2, hb1⟩; rw [HF.out] at hr2; obtain ⟨sa, sc, rfl, hsub⟩ := hr2)
            | (go_at_call 62; refine (field_Get_c f sa sc 97 _ (hsub.below (Tx.newb _ _))).mono ?_; rintro e w2 ⟨rfl, hb2⟩; rw [HGT.out]))
          have hb3 := Tx.step ((Tx.step hb hb1).alloc (Tx.step hb hb1).size _) hb2
          go_roundw
          case rel => exact ⟨k + 1, by omega, by go_num, Lib.hid HT.out.symm, hb3⟩
          case measure => simp [intOf]; omega
        | some v =>
          have hat : Rc.authorT fs T.data.toList = some v := by unfold Rc.authorT; rw [hf]; exact hgt
          rw [hat] at hTd
          have HT := Lib.hid hTd; clear hTd hat
          have HF := Lib.hid hf; clear hf
          have HGT := Lib.hid hgt; clear hgt
          go_wp2_with (first
            | (go_at_call 61; refine (record_first_c fs a c id ver kind lang T _ h2).mono ?_; rintro e w1 ⟨hr2, hb1⟩; rw [HF.out] at hr2; obtain ⟨sa, sc, rfl, hsub⟩ := hr2)
            | (go_at_call 62; refine (field_Get_c f sa sc 97 _ (hsub.below (Tx.newb _ _))).mono ?_; rintro e w2 ⟨rfl, hb2⟩; rw [HGT.out]))
          have hb3 := Tx.step ((Tx.step hb hb1).alloc (Tx.step hb hb1).size _) hb2
          go_ret
          exact ⟨Tx.rets (by rw [HT.out]), hB.trans (hb3.mono hB.size)⟩
    · obtain rfl : k = 3 := by omega
      have HA : Hid (Rc.author fs = []) := Lib.hid (by rw [← hA.out]; rfl)
      go_wp2
      go_ret
      exact ⟨Tx.rets (by rw [HA.out]), hB.trans (hb.mono hB.size)⟩

namespace Rc
theorem pub_eq (f : Fl) {b1 b2 : Bool} (h1 : tagIs [50, 54, 48] f = b1) (h2 : tagIs [50, 54, 52] f = b2) : (f.tag.toList == [50, 54, 48]) = b1 ∧ (f.tag.toList == [50, 54, 52]) = b2 ∧ pubTag f = (b1 || b2) := by
  rw [Lib.toList_data]
  refine ⟨h1, h2, ?_⟩
  unfold pubTag
  rw [h1, h2]
end Rc

set_option maxHeartbeats 1600000 in
theorem record_Year_c (fs : List Rc.Fl) (a : Option Addr) (c : Nat) (id ver kind : Int) (lang : ByteArray) (w : World) (h : Rc.FldA w a c fs) (hg : ∀ f ∈ fs, Rc.Gd f) :
    Calls Tryz.prog 33 #[.agg #[.int .i64 id, .int .i64 ver, .int .i64 kind, .string lang, .slice a fs.length c]] w fun e w' => e = .returned (.int .i64 (Rc.year fs)) ∧ Below w.heap.size w w' := by
  have hcap := h.cap
  have hmx : maxLen = 9223372036854775807 := rfl
  have hmax := h.max
  have hB := Tx.newb w (.cells #[.int .i64 id, .int .i64 ver, .int .i64 kind, .string lang, .slice a fs.length c] 24)
  obtain ⟨ys, hys⟩ : ∃ ys, fs.map (fun f => if Rc.pubTag f then Rc.yearF (Rc.allV f.subs [99]) else 0) = ys := ⟨_, rfl⟩
  have hyr : Rc.year fs = Rc.firstNZ ys := by rw [← hys]; rfl
  have HYS := Lib.hid hys; clear hys
  go_enter Tryz.func33, Tryz.ntmps33
  go_wp2
  go_loopw [4, 6, 7, 11, 26] (fun _ _ _ i _ wr => ∃ (k : Nat), k ≤ fs.length ∧ i = .int .i64 k ∧ Hid (Rc.firstNZ (ys.drop k) = Rc.year fs) ∧ Below w.heap.size w wr) (fun _ _ _ i _ _ => fs.length - (intOf i).toNat)
  case atStart => exact ⟨0, Nat.zero_le _, rfl, Lib.hid (by rw [List.drop_zero, hyr]), hB⟩
  case round =>
    obtain ⟨k, hk, rfl, hI, hb⟩ := hrel
    clear hyr
    by_cases hlt : k < fs.length
    · obtain ⟨f, hf⟩ : ∃ f, fs[k]? = some f := ⟨_, List.getElem?_eq_getElem hlt⟩
      have hgf := hg f (List.mem_of_getElem? hf)
      obtain ⟨b, o, sa, sc, rfl, hbl, c0, c1, c2, c3, hsub⟩ := h.get hf
      replace c0 := cell_later hb c0
      replace c1 := cell_later hb c1
      replace c2 := cell_later hb c2
      replace c3 := cell_later hb c3
      have hsub1 := hsub.below hb
      have hbw := hb.alloc hb.size (.cells #[.string f.tag, .string f.ind, .slice sa f.subs.length sc, .int .i64 f.auth] 42)
      have hyk : ys[k]? = some (if Rc.pubTag f then Rc.yearF (Rc.allV f.subs [99]) else 0) := by rw [← HYS.out, List.getElem?_map, hf]; rfl
      have hst := Rc.firstNZ_step hyk
      rw [hI.out] at hst
      cases h0 : Rc.tagIs [50, 54, 48] f <;> cases h4 : Rc.tagIs [50, 54, 52] f
      · obtain ⟨e0, e4, ep⟩ := Rc.pub_eq f h0 h4
        rw [ep] at hst
        simp only [Bool.or_self, Bool.false_eq_true, if_false, if_true] at hst
        have HS := Lib.hid hst; clear hst h0 h4 ep hyk
        go_wp2
        go_roundw
        case rel => exact ⟨k + 1, by omega, by go_num, Lib.hid HS.out.symm, hbw⟩
        case measure => simp [intOf]; omega
      all_goals
        obtain ⟨e0, e4, ep⟩ := Rc.pub_eq f h0 h4
        rw [ep] at hst
        simp only [Bool.or_self, Bool.or_true, Bool.true_or, if_true] at hst
        obtain ⟨L, hL⟩ : ∃ L, Rc.allV f.subs [99] = L := ⟨_, rfl⟩
        have hsz : ∀ x ∈ L, x.size ≤ 100000 := fun x hx => Rc.all_size hgf [99] (by rw [hL]; exact hx)
        have hll : L.length ≤ 1000 := by rw [← hL]; exact (hgf.all _).1
        rw [hL] at hst
        have HS := Lib.hid hst; clear hst h0 h4 ep hyk
        have HL := Lib.hid hL; clear hL
        have HZ := Lib.hid hsz; clear hsz
        have HG := Lib.hid hgf; clear hgf
        go_wp2_with (go_at_call 46; refine (field_All_c f sa sc ⟨#[99]⟩ _ (hsub1.below (Tx.newb _ _)) HG.out.1).mono ?_; rintro e w1 ⟨v, rfl, hsl, hb1⟩; rw [show Rc.allV f.subs (⟨#[99]⟩ : ByteArray).data.toList = L from HL.out] at hsl; obtain ⟨va, vc, rfl, hsla⟩ := hsl.sla; clear hsl)
        have hbo := Tx.step hbw hb1
        go_loopw [6, 7, 26] (fun _ _ j wr2 => ∃ (m : Nat), m ≤ L.length ∧ j = .int .i64 m ∧ Hid (Rc.firstNZ ((L.map fun x => Rc.yearIn x.data.toList).drop m) = Rc.yearF L) ∧ Below w1.heap.size w1 wr2) (fun _ _ j _ => L.length - (intOf j).toNat)
        case atStart => exact ⟨0, Nat.zero_le _, rfl, Lib.hid (by rw [List.drop_zero]; rfl), Below.refl _ _⟩
        case round =>
          obtain ⟨m, hm, rfl, hJ, hb2⟩ := hrel
          by_cases hml : m < L.length
          · obtain ⟨x, hx⟩ : ∃ x, L[m]? = some x := ⟨_, List.getElem?_eq_getElem hml⟩
            have hxs := HZ.out x (List.mem_of_getElem? hx)
            have hne : L ≠ [] := by intro h0; rw [h0] at hml; simp at hml
            obtain ⟨b5, o5, rfl, hbl5, d0⟩ := (hsla hne).get hx
            replace d0 := cell_later hb2 d0
            have hst := Rc.firstNZ_step (l := L.map fun x => Rc.yearIn x.data.toList) (k := m) (n := Rc.yearIn x.data.toList) (by rw [List.getElem?_map, hx]; rfl)
            rw [hJ.out] at hst
            obtain ⟨Y, hY⟩ : ∃ Y, Rc.yearIn x.data.toList = Y := ⟨_, rfl⟩
            rw [hY] at hst
            have HY := Lib.hid hY; clear hY hx hne
            by_cases hy0 : Y = 0
            · subst hy0
              rw [if_pos rfl] at hst
              have HT := Lib.hid hst; clear hst
              go_wp2_with (go_at_call 63; refine (yearIn_c x _ (by omega)).mono ?_; rintro e w3 ⟨rfl, hb3⟩; rw [HY.out])
              go_roundw
              case rel => exact ⟨m + 1, by omega, by go_num, Lib.hid HT.out.symm, Tx.step hb2 hb3⟩
              case measure => simp [intOf]; omega
            · rw [if_neg hy0] at hst
              have HT := Lib.hid hst; clear hst
              have hyn : ((Y : Int) != 0) = true := by simp; omega
              have HU := HS.out
              rw [HT.out, if_neg hy0] at HU
              have HU2 := Lib.hid HU; clear HU
              go_wp2_with (go_at_call 63; refine (yearIn_c x _ (by omega)).mono ?_; rintro e w3 ⟨rfl, hb3⟩; rw [HY.out])
              go_ret
              exact ⟨Tx.ret1 (by rw [HU2.out]), hbo.trans ((Tx.step hb2 hb3).mono hbo.size)⟩
          · obtain rfl : m = L.length := by omega
            have hv := hJ.out
            rw [List.drop_eq_nil_of_le (by rw [List.length_map]; omega)] at hv
            have HU := HS.out
            rw [← hv, if_pos (show Rc.firstNZ [] = 0 from rfl)] at HU
            have HU2 := Lib.hid HU; clear HU hv
            go_wp2
            go_roundw
            case rel => exact ⟨k + 1, by omega, by go_num, Lib.hid HU2.out.symm, hbo.trans (hb2.mono hbo.size)⟩
            case measure => simp [intOf]; omega
    · obtain rfl : k = fs.length := by omega
      have hv := hI.out
      rw [List.drop_eq_nil_of_le (by rw [← HYS.out, List.length_map]; omega)] at hv
      have HV := Lib.hid hv; clear hv
      go_wp2
      go_ret
      exact ⟨Tx.ret1 (by rw [← HV.out]; rfl), hb⟩
end Go.Proofs.YtccbadbfijkaeaaGreatDoor
