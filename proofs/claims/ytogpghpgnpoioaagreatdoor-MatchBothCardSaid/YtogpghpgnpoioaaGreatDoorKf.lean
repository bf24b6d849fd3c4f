/- slices.SortFunc at any element of several cells, by an order that tells any two apart: what the call leaves, where the slice is the call's own. -/
import Derived.Test.YtogpghpgnpoioaaGreatDoorKe
import Derived.Shelf.SlSortCmp.NoneTotal
import Derived.Test.YtogpghpgnpoioaaGreatDoorKc
import Derived.Test.YtogpghpgnpoioaaGreatDoorKd
namespace Go.Proofs.YtogpghpgnpoioaaGreatDoor
open Go.RowKit Go.Sort
set_option maxRecDepth 100000

namespace Sq
open Go.Sort (putRow putCells mapBlock onCells flatK)
section
variable {α : Type} [Inhabited α] {enc : α → List Value} {k : Nat}
theorem flat_list (hk : ∀ x, (enc x).length = k) (hk0 : 0 < k) (d : Array α) : (flatK enc k d).toList = d.toList.flatMap enc := by
  apply List.ext_getElem?
  intro t
  rcases Nat.lt_or_ge t (d.size * k) with h | h
  · have hq : t / k < d.size := by rw [Nat.div_lt_iff_lt_mul hk0]; exact h
    have hr : t % k < k := Nat.mod_lt _ hk0
    obtain ⟨x, hx⟩ : ∃ x, d.toList[t / k]? = some x := ⟨_, List.getElem?_eq_getElem (by rw [Array.length_toList]; exact hq)⟩
    have h1 := Br.flat_at enc k hk d.toList (t / k) (t % k) x hx hr
    rw [Nat.div_add_mod' t k] at h1
    rw [h1, Array.getElem?_toList, Array.getElem?_eq_getElem (by simpa using h), ← getElem!_pos (flatK enc k d) t (by simpa using h), Go.Sort.get_flatK _ _ _ _ h]
    have hx2 : d[t / k]! = x := by
      rw [Array.getElem?_toList] at hx
      rw [getElem!_def, hx]
    rw [hx2]
    have h3 : t % k < (enc x).length := by rw [hk]; omega
    rw [getElem!_pos (enc x) (t % k) h3, List.getElem?_eq_getElem h3]
  · rw [List.getElem?_eq_none (by rw [Array.length_toList, Go.Sort.size_flatK]; exact h), List.getElem?_eq_none (by rw [Br.flat_len enc k hk, Array.length_toList]; exact h)]
theorem holds_of_rows (hk : ∀ x, (enc x).length = k) (hk0 : 0 < k) {w : World} {g : Nat} {cur : Array Value} {e : TypeId} {T : List α} (hb : w.heap[g]? = some (.cells cur e (0, 0))) (ht : cur.toList.take (T.length * k) = T.flatMap enc) : Go.Sort.HoldsK enc k w g 0 T.toArray := by
  intro j hj
  have hj' : j < T.length * k := by simpa using hj
  refine ⟨?_, by simp [World.frozen?, hb]⟩
  have h1 : (cur.toList.take (T.length * k))[j]? = (T.flatMap enc)[j]? := by rw [ht]
  rw [List.getElem?_take_of_lt hj'] at h1
  simp only [World.cell?, hb, Nat.zero_add]
  have h2 := flat_list hk hk0 T.toArray
  simp only [] at h2
  rw [← h2, Array.getElem?_toList, Array.getElem?_toList] at h1
  rw [h1, Array.getElem?_eq_getElem hj, getElem!_pos _ j hj]
  rfl
theorem heap_sorted {w : World} {g n : Nat} {os : Array Obj} {cur : Array Value} {e : TypeId} {fr : Nat × Nat} (F : Array Value) (hb : w.heap[g]? = some (.cells cur e fr)) :
    (grow (putRow id (Go.Sort.ahead w n) g 0 F) os).heap[g]? = some (.cells (putCells id 0 F cur) e fr) := by
  have hg : g < w.heap.size := (Array.getElem?_eq_some_iff.1 hb).1
  rw [Go.Sort.heap_grow_old _ _ (by simpa using hg)]
  simp [putRow, mapBlock, Go.Sort.ahead, Array.getElem?_modify, hb, onCells]
theorem grownBy_sorted {w : World} {g n : Nat} {os : Array Obj} (F : Array Value) : w.grownBy (grow (putRow id (Go.Sort.ahead w n) g 0 F) os) (some g) := by
  refine ⟨rfl, rfl, rfl, by simp, fun k hk hne => ?_⟩
  rw [Go.Sort.heap_grow_old _ _ (by simpa using hk)]
  have : g ≠ k := fun e => hne (by rw [e])
  simp [putRow, mapBlock, Go.Sort.ahead, Array.getElem?_modify, this]
theorem take_putCells (cur : Array Value) (F : Array Value) (h : F.size ≤ cur.size) : (putCells id 0 F cur).toList.take F.size = F.toList := by
  apply List.ext_getElem?
  intro j
  by_cases hj : j < F.size
  · rw [List.getElem?_take_of_lt hj, Array.getElem?_toList]
    simp [putCells, hj, show j < cur.size by omega]
  · rw [List.getElem?_take_eq_none (by omega), List.getElem?_eq_none (by simp; omega)]
theorem ownsRow_sorted {w : World} {base g cap n m k : Nat} {e : TypeId} {os : Array Obj} {cur : Array Value} {F : Array Value} (hl : F.size = m * k) (hbase : base ≤ g) (hb : w.heap[g]? = some (.cells cur e (0, 0)))
    (h1 : m ≤ cap) (h2 : cap ≤ maxLen) (h3 : cur.size = cap * k) :
    (grow (putRow id (Go.Sort.ahead w n) g 0 F) os).ownsRow base e k (.slice (some ⟨g, 0, none⟩) m cap) m F.toList :=
  ⟨by simp [hl], .inr ⟨g, cap, _, rfl, hbase, heap_sorted _ hb, h1, h2, by simp [putCells, h3], by rw [← hl]; exact take_putCells cur F (by rw [hl, h3]; exact Nat.mul_le_mul_right k h1)⟩⟩

theorem sort_total {ρ : Go.Shelf.Ren} (L : SlLaysF0.n6 Tryz.prog ρ) (aE : ∀ w, (isAgg (ρ.t 24)).run Tryz.prog w = .ok true w) (zE : ∀ w, (Go.sizeOf (ρ.t 24)).run Tryz.prog w = .ok k w) (hk : ∀ x, (enc x).length = k) (hk0 : 0 < k) (h1 : ∀ x, ∀ v ∈ enc x, v.oneCell' = true)
    (cf : α → α → Int) (hO : SWO (ltOf cf)) (hT : ∀ x y, (ltOf cf) x y = false → (ltOf cf) y x = false → x = y) (g : Nat) (cb : Array Value) (eg : ∀ args w, (callFunc g args).run Tryz.prog w = .ok (.enter g args) w)
    {v : Value} {T : List α} {B : Nat} {ty : TypeId} {w : World}
    (hcmp : ∀ (W : World) (x y : α), Below w.heap.size w W ∨ w.grownBy W v.ownBlock → Calls Tryz.prog g (#[.agg (enc x).toArray, .agg (enc y).toArray] ++ cb) W fun e w' => e = .returned (.int .i64 (cf x y)) ∧ ∃ q os, w' = grow (W.drewN q) os)
    (h : w.ownsRow B ty k v T.length (T.flatMap enc)) (hl : T.length < 1000000000) :
    Calls Tryz.prog (ρ.f 6) #[v, .func (.func g) #[] cb] w fun e w' => e = .returned (.tuple #[]) ∧ w'.ownsRow B ty k v T.length ((T.mergeSort fun x y => !(ltOf cf) y x).flatMap enc) ∧ w.grownBy w' v.ownBlock := by
  rcases h.2 with ⟨rfl, h0⟩ | ⟨b, cap, cur, rfl, hbase, hb, g1, g2, g3, g4⟩
  · have hnil := List.eq_nil_of_length_eq_zero h0
    subst hnil
    refine (AnyF.slices_SortFunc_none L none 0 (.func (.func g) #[] cb) w).mono fun e w' ⟨he, hw⟩ => ?_
    subst hw
    exact ⟨he, by rw [List.mergeSort_nil]; exact World.ownsRow_nil _ _ _ _, ⟨rfl, rfl, rfl, Nat.le_refl _, fun _ _ _ => rfl⟩⟩
  · have hH := holds_of_rows hk hk0 hb g4
    have hs := AnyQ.slices_SortFunc_total L k aE zE enc hk h1 cf hO g cb b 0 cap T.toArray w eg (fun m os dk _ x y => hcmp _ x y (.inr (grownBy_sorted _))) hH (Array.getElem?_eq_some_iff.1 hb).1 (by simp; omega) hT
    refine hs.mono fun e w' ⟨he, n, os, hw⟩ => ?_
    subst hw
    have h7 := ownsRow_sorted (n := n) (os := os) (F := Go.Sort.flatK enc k (T.mergeSort fun x y => !(ltOf cf) y x).toArray) (m := T.length) (k := k) (by rw [Go.Sort.size_flatK]; simp) hbase hb g1 g2 g3
    rw [flat_list hk hk0] at h7
    exact ⟨he, h7, grownBy_sorted _⟩
end
end Sq
end Go.Proofs.YtogpghpgnpoioaaGreatDoor

/- Plain: the fields of a text, a text folded, and its words; no program stands in this file. -/
namespace Go.Proofs.YtogpghpgnpoioaaGreatDoor
namespace Tx
open Go.Lib Rc

/-! ### what strings.FieldsFunc makes of a text -/
def wStep (p : Nat → Bool) (st : List By × By) (q : By) (c : Nat) : List By × By :=
  if p c = true then (if st.2 = [] then st else (st.1 ++ [st.2], [])) else (st.1, st.2 ++ q)
def wEnd (st : List By × By) : List By := if st.2 = [] then st.1 else st.1 ++ [st.2]
def fieldsT (p : Nat → Bool) (l : By) : List By := wEnd (foldT (wStep p) ([], []) l)
def spans (s : ByteArray) (acc : List (Nat × Nat)) : List By := acc.map fun x => (s.extract x.1 x.2).data.toList
def openW (s : ByteArray) (st : Option Nat) (pos : Nat) : By := match st with
  | some a => (s.extract a pos).data.toList
  | none => []
theorem words_go (p : Nat → Bool) (s : ByteArray) : ∀ (f pos : Nat) (st : Option Nat) (acc : List (Nat × Nat)),
    pos ≤ s.size → s.size ≤ pos + f → valid (s.data.toList.drop pos) = true → (∀ a, st = some a → a < pos) →
    spans s (closeSpans s (spansFromP p s f pos st acc)) = wEnd (foldT (wStep p) (spans s acc, openW s st pos) (s.data.toList.drop pos))
  | f, pos, st, acc, hp, hf, hv, hs => by
    by_cases hlt : pos < s.size
    · obtain ⟨g, rfl⟩ : ∃ g, f = g + 1 := ⟨f - 1, by omega⟩
      have hne : s.data.toList.drop pos ≠ [] := by
        intro h0
        have := congrArg List.length h0
        rw [List.length_drop, ← size_eq] at this
        simp at this
        omega
      obtain ⟨hz, hd, hw, hv2, _⟩ := valid_head hne hv
      have hdec : Utf8.decode s pos = rdec (s.data.toList.drop pos) := by rw [← decodeL_drop, hd]
      have hle : wid (s.data.toList.drop pos) ≤ s.size - pos := by
        have := wid_le hne
        rw [List.length_drop, ← size_eq] at this
        omega
      have hwp := wid_pos (s.data.toList.drop pos)
      rw [foldT_step (wStep p) _ hne]
      simp only [spansFromP, if_pos hlt, hdec]
      rw [← hw]
      rw [List.drop_drop] at hv2 ⊢
      generalize hk : wid (s.data.toList.drop pos) = k at *
      generalize hc : (rdec (s.data.toList.drop pos)).1 = c at *
      cases hb : p c with
      | true =>
        simp only [if_true]
        cases st with
        | none =>
          have e : wStep p (spans s acc, openW s none pos) ((s.data.toList.drop pos).take k) c = (spans s acc, openW s none (pos + k)) := by simp [wStep, hb, openW]
          rw [e]
          exact words_go p s g (pos + k) none acc (by omega) (by omega) hv2 (fun a h => by cases h)
        | some a =>
          have h1 := hs a rfl
          have e : wStep p (spans s acc, openW s (some a) pos) ((s.data.toList.drop pos).take k) c = (spans s (acc ++ [(a, pos)]), openW s none (pos + k)) := by
            simp [wStep, hb, openW, spans]
            omega
          rw [e]
          exact words_go p s g (pos + k) none (acc ++ [(a, pos)]) (by omega) (by omega) hv2 (fun a h => by cases h)
      | false =>
        simp only [Bool.false_eq_true, if_false]
        cases st with
        | some a =>
          have h1 := hs a rfl
          have e : wStep p (spans s acc, openW s (some a) pos) ((s.data.toList.drop pos).take k) c = (spans s acc, openW s (some a) (pos + k)) := by
            simp only [wStep, hb, openW, Bool.false_eq_true, if_false]
            rw [extract_more s a pos k (by omega)]
          rw [e]
          exact words_go p s g (pos + k) (some a) acc (by omega) (by omega) hv2 (fun b h => by cases h; omega)
        | none =>
          have e : wStep p (spans s acc, openW s none pos) ((s.data.toList.drop pos).take k) c = (spans s acc, openW s (some pos) (pos + k)) := by
            simp only [wStep, hb, openW, Bool.false_eq_true, if_false, List.nil_append]
            rw [extract_more s pos pos k (Nat.le_refl _), extract_none]
            rfl
          rw [e]
          exact words_go p s g (pos + k) (some pos) acc (by omega) (by omega) hv2 (fun b h => by cases h; omega)
    · have hps : pos = s.size := by omega
      rw [spansFromP_end p s f _ _ _ hlt]
      have hnil : s.data.toList.drop pos = [] := List.drop_eq_nil_of_le (by rw [← size_eq]; omega)
      rw [hnil, foldT_nil]
      cases st with
      | none => simp [closeSpans, openW, wEnd]
      | some a =>
        have h1 := hs a rfl
        simp [closeSpans, openW, wEnd, spans, hps]
        omega
  termination_by f => f
theorem fieldsT_eq (p : Nat → Bool) (s : ByteArray) (hv : valid s.data.toList = true) : (goFieldsP p s).map (·.data.toList) = fieldsT p s.data.toList := by
  have h := words_go p s s.size 0 none [] (Nat.zero_le _) (by omega) (by simpa using hv) (fun a h => by cases h)
  rw [List.drop_zero] at h
  unfold fieldsT
  rw [show (([], []) : List By × By) = (spans s [], openW s none 0) from rfl, ← h]
  unfold spans goFieldsP spansOfP
  rw [List.map_map]
  rfl

/-! ### folding -/
/-- What replaces a character; [] if it stays. -/
def foldC (c : Nat) : By :=
  if 65 ≤ c ∧ c ≤ 90 then [UInt8.ofNat (c + 32)]
  else if c < 192 ∨ 255 < c ∨ c = 215 ∨ c = 247 then []
  else if c = 223 then [115, 115]
  else if c = 255 then [121]
  else if (if 224 ≤ c then c - 32 else c) ≤ 197 then [97]
  else if (if 224 ≤ c then c - 32 else c) = 198 then [97, 101]
  else if (if 224 ≤ c then c - 32 else c) = 199 then [99]
  else if (if 224 ≤ c then c - 32 else c) ≤ 203 then [101]
  else if (if 224 ≤ c then c - 32 else c) ≤ 207 then [105]
  else if (if 224 ≤ c then c - 32 else c) = 208 then [100]
  else if (if 224 ≤ c then c - 32 else c) = 209 then [110]
  else if (if 224 ≤ c then c - 32 else c) ≤ 216 then [111]
  else if (if 224 ≤ c then c - 32 else c) ≤ 220 then [117]
  else if (if 224 ≤ c then c - 32 else c) = 221 then [121]
  else [116, 104]
def foldP (q : By) (c : Nat) : By := if foldC c = [] then q else foldC c
def foldStep (out : By) (q : By) (c : Nat) : By := out ++ foldP q c
/-- The reference's Fold. -/
def foldS (l : By) : By := foldT foldStep [] l
def letter (c : Nat) : Bool := decide (97 ≤ c ∧ c ≤ 122) || decide (48 ≤ c ∧ c ≤ 57) || decide (256 ≤ c)
def sepW (c : Nat) : Bool := !letter c
/-- The reference's Words. -/
def words (l : By) : List By := fieldsT sepW (foldS l)
theorem foldC_len0 : ∀ c, c < 256 → (foldC c).length ≤ 2 := by decide +kernel
theorem foldC_low : ∀ c, c < 256 → ∀ b ∈ foldC c, 97 ≤ b.toNat ∧ b.toNat ≤ 122 := by decide +kernel
theorem foldC_high {c : Nat} (h : 256 ≤ c) : foldC c = [] := by
  unfold foldC
  rw [if_neg (by omega), if_pos (by omega)]
theorem foldC_len (c : Nat) : (foldC c).length ≤ 2 := by
  rcases Nat.lt_or_ge c 256 with h | h
  · exact foldC_len0 c h
  · rw [foldC_high h]; simp
theorem foldC_asc (c : Nat) : ∀ b ∈ foldC c, 97 ≤ b.toNat ∧ b.toNat ≤ 122 := by
  rcases Nat.lt_or_ge c 256 with h | h
  · exact foldC_low c h
  · rw [foldC_high h]; simp
theorem rdec_asc {b : UInt8} (r : By) (h : 32 ≤ b.toNat ∧ b.toNat < 127) : rdec (b :: r) = (b.toNat, 1) := by
  unfold rdec
  exact by unfold rdecN; rw [List.getD_cons_zero, if_pos h]
theorem valid_asc : ∀ (l : By), (∀ b ∈ l, 32 ≤ b.toNat ∧ b.toNat < 127) → valid l = true
  | [], _ => rfl
  | b :: r, h => by
    have hb := h b (by simp)
    rw [valid_step (by simp), rdec_asc r hb, if_neg (show ¬ (b.toNat, 1).2 = 0 by simp)]
    exact valid_asc r (fun x hx => h x (by simp [hx]))
theorem valid_foldC (c : Nat) : valid (foldC c) = true := valid_asc _ fun b hb => by have := foldC_asc c b hb; omega
theorem getD_take {l : By} {k j : Nat} (h : j < k) : (l.take k).getD j 0 = l.getD j 0 := by
  rw [List.getD_eq_getElem?_getD, List.getD_eq_getElem?_getD, List.getElem?_take, if_pos h]
/-- A character by itself is read as in its text. -/
theorem rdec_head {l : By} (hne : l ≠ []) (h : (rdec l).2 ≠ 0) : rdec (l.take (rdec l).2) = rdec l := by
  have hl := rdec_le hne
  have h0 : 0 < l.length := List.length_pos_iff.2 hne
  generalize hk : (rdec l).2 = k at *
  have e0 : (l.take k).getD 0 0 = l.getD 0 0 := getD_take (by omega)
  have el : (l.take k).length = k := by rw [List.length_take]; omega
  unfold rdec at hk ⊢
  rw [e0, el]
  unfold rdecN at hk ⊢
  by_cases ha : 32 ≤ (l.getD 0 0).toNat ∧ (l.getD 0 0).toNat < 127
  · simp only [if_pos ha]
  · simp only [if_neg ha] at hk ⊢
    by_cases hb : 194 ≤ (l.getD 0 0).toNat ∧ (l.getD 0 0).toNat < 224 ∧ 1 < l.length ∧ 128 ≤ (l.getD 1 0).toNat ∧ (l.getD 1 0).toNat < 192
    · simp only [if_pos hb] at hk ⊢
      by_cases hc : 160 ≤ ((l.getD 0 0).toNat - 192) * 64 + (l.getD 1 0).toNat - 128
      · rw [if_pos hc] at hk ⊢
        have hk2 : k = 2 := hk.symm
        have e1 : (l.take k).getD 1 0 = l.getD 1 0 := getD_take (by omega)
        rw [e1, if_pos ⟨hb.1, hb.2.1, by omega, hb.2.2.2⟩, if_pos hc]
      · rw [if_neg hc] at hk
        exact absurd hk.symm h
    · rw [if_neg hb] at hk
      rw [if_neg hb]
      by_cases hd : 224 ≤ (l.getD 0 0).toNat ∧ (l.getD 0 0).toNat < 240 ∧ 2 < l.length ∧ 128 ≤ (l.getD 1 0).toNat ∧ (l.getD 1 0).toNat < 192 ∧ 128 ≤ (l.getD 2 0).toNat ∧ (l.getD 2 0).toNat < 192
      · rw [if_pos hd] at hk
        rw [if_pos hd]
        split at hk
        · rename_i hq
          have hk3 : k = 3 := hk.symm
          have e1 : (l.take k).getD 1 0 = l.getD 1 0 := getD_take (by omega)
          have e2 : (l.take k).getD 2 0 = l.getD 2 0 := getD_take (by omega)
          rw [e1, e2, if_neg (by omega), if_pos ⟨hd.1, hd.2.1, by omega, hd.2.2.2⟩]
        · exact absurd hk.symm h
      · rw [if_neg hd] at hk
        exact absurd hk.symm h
theorem valid_piece {l : By} (hne : l ≠ []) (hv : valid l = true) : valid (l.take (wid l)) = true ∧ l.take (wid l) ≠ [] := by
  obtain ⟨hz, _, hw, _, _⟩ := valid_head hne hv
  have hl := rdec_le hne
  have hlp : 0 < l.length := List.length_pos_iff.2 hne
  have hn : l.take (wid l) ≠ [] := by
    intro h0
    have := congrArg List.length h0
    rw [List.length_take, hw, List.length_nil] at this
    omega
  refine ⟨?_, hn⟩
  rw [hw] at hn ⊢
  have hr := rdec_head hne hz
  rw [valid_step hn, hr, if_neg hz, List.drop_eq_nil_of_le (by rw [List.length_take]; omega)]
  rfl
/-- What holds of every step of a fold over a text's characters. -/
theorem foldT_ind {σ : Type} (f : σ → By → Nat → σ) (I : σ → By → Prop) (hstep : ∀ st l, l ≠ [] → valid l = true → I st l → I (f st (l.take (wid l)) (rdec l).1) (l.drop (wid l))) : ∀ (n : Nat) (st : σ) (l : By), l.length ≤ n → valid l = true → I st l → I (foldT f st l) []
  | 0, st, l, hn, hv, h => by
    have : l = [] := List.eq_nil_of_length_eq_zero (by omega)
    subst this
    rw [foldT_nil]
    exact h
  | n + 1, st, l, hn, hv, h => by
    by_cases hne : l = []
    · subst hne; rw [foldT_nil]; exact h
    · obtain ⟨_, _, hw, hv2, _⟩ := valid_head hne hv
      have hwp := wid_pos l
      rw [foldT_step f _ hne]
      exact foldT_ind f I hstep n _ _ (by rw [List.length_drop]; omega) (by rw [hw] at hv2 ⊢; exact hv2) (hstep st l hne hv h)
theorem foldS_valid {l : By} (hv : valid l = true) : valid (foldS l) = true := by
  refine foldT_ind foldStep (fun out _ => valid out = true) (fun out m hne hm ho => ?_) l.length [] l (Nat.le_refl _) hv rfl
  unfold foldStep foldP
  refine valid_app ho ?_
  split
  · exact (valid_piece hne hm).1
  · exact valid_foldC _
theorem foldS_len {l : By} (hv : valid l = true) : (foldS l).length ≤ 2 * l.length := by
  have := foldT_ind foldStep (fun out m => out.length + 2 * m.length ≤ 2 * l.length) (fun out m hne hm ho => by
    have hwl := wid_le hne
    have hwp := wid_pos m
    have hc := foldC_len (rdec m).1
    unfold foldStep foldP
    rw [List.length_append, List.length_drop]
    split
    · rw [List.length_take]; omega
    · omega) l.length [] l (Nat.le_refl _) hv (by simp)
  simpa [foldS] using this
/-- The words of a text are texts, none is empty, and all together are no longer. -/
theorem fieldsT_good (p : Nat → Bool) {l : By} (hv : valid l = true) : (∀ w ∈ fieldsT p l, valid w = true ∧ w ≠ []) ∧ lens (fieldsT p l) ≤ l.length ∧ (fieldsT p l).length ≤ l.length := by
  have hlen : ∀ (a : List By) (b : By), lens (a ++ [b]) = lens a + b.length := fun a b => by simp [lens]
  have h := foldT_ind (wStep p) (fun st m => (∀ w ∈ st.1, valid w = true ∧ w ≠ []) ∧ valid st.2 = true ∧ lens st.1 + st.2.length + m.length ≤ l.length ∧ st.1.length + st.2.length + m.length ≤ l.length + (if st.2 = [] then 0 else 0)) (fun st m hne hm ⟨h1, h2, h3, h4⟩ => by
    have hwl := wid_le hne
    have hwp := wid_pos m
    have hpc := valid_piece hne hm
    unfold wStep
    rw [List.length_drop]
    split
    · split
      · exact ⟨h1, h2, by omega, by simp at h4 ⊢; omega⟩
      · rename_i h9
        have h8 : 0 < st.2.length := List.length_pos_iff.2 h9
        refine ⟨fun w hw => ?_, rfl, by rw [hlen]; simp; omega, by simp at h4 ⊢; omega⟩
        rcases List.mem_append.1 hw with hw | hw
        · exact h1 w hw
        · simp at hw; rw [hw]; exact ⟨h2, h9⟩
    · refine ⟨h1, valid_app h2 hpc.1, ?_, ?_⟩
      · simp only [List.length_append, List.length_take]; omega
      · simp at h4 ⊢; omega) l.length ([], []) l (Nat.le_refl _) hv ⟨by simp, rfl, by simp [lens], by simp⟩
  obtain ⟨h1, h2, h3, h4⟩ := h
  unfold fieldsT wEnd
  simp only [List.length_nil, Nat.add_zero] at h3
  simp at h4
  split
  · exact ⟨h1, by omega, by omega⟩
  · rename_i h9
    have h8 : 0 < (foldT (wStep p) ([], []) l).2.length := List.length_pos_iff.2 h9
    refine ⟨fun w hw => ?_, by rw [hlen]; exact h3, by rw [List.length_append]; simp; omega⟩
    rcases List.mem_append.1 hw with hw | hw
    · exact h1 w hw
    · simp at hw; rw [hw]; exact ⟨h2, h9⟩
end Tx
end Go.Proofs.YtogpghpgnpoioaaGreatDoor

/- Plain: book numbers, the keys of records, scores, what is found, pairs: as lists. -/
namespace Go.Proofs.YtogpghpgnpoioaaGreatDoor
set_option maxRecDepth 100000

namespace Mt
open Go.Lib Rc
abbrev By := List UInt8
/-! book numbers -/
def rem (s : By) : By := s.filter fun c => !(c == 45) && !(c == 32)
def dig (c : UInt8) : Bool := decide (48 ≤ c.toNat) && decide (c.toNat ≤ 57)
def digits (s : By) : Bool := s.all dig
/-- Digits, of which the last one can be X. -/
def ended (s : By) : Bool := !(s == []) && (s.dropLast.all dig && (dig (s.getLastD 0) || s.getLastD 0 == 88))
def val (c : UInt8) : Int := if c = 88 then 10 else (c.toNat : Int) - 48
/-- The weighted sum of the first k characters. -/
def wS (s : By) : Nat → Int
  | 0 => 0
  | k + 1 => wS s k + val (s.getD k 0) * ((s.length : Int) - k)
/-- The alternating sum of the first k characters. -/
def aS (s : By) : Nat → Int
  | 0 => 0
  | k + 1 => aS s k + (if k % 2 = 1 then 3 * (((s.getD k 0).toNat : Int) - 48) else ((s.getD k 0).toNat : Int) - 48)
def pre13 (t : By) : Bool := t.take 3 == [57, 55, 56] || t.take 3 == [57, 55, 57]
/-- A book number with thirteen digits, or an error. -/
def isbnT (t : By) : By × Int :=
  if t.length = 13 ∧ digits t = true ∧ pre13 t = true then (if aS t t.length % 10 = 0 then (t, 0) else ([], 5))
  else if t.length = 10 ∧ ended t = true then
    (if wS t t.length % 11 = 0 then (let u := [57, 55, 56] ++ t.take 9; (u ++ [UInt8.ofNat (48 + ((10 - aS u u.length % 10) % 10).toNat)], 0)) else ([], 5))
  else ([], 3)
def isbn (s : By) : By := (isbnT (rem s)).1
/-! years -/
/-- The first run of exactly four digits. -/
def yScan : By → By → By
  | [], cur => if cur.length = 4 then cur else []
  | c :: r, cur => if dig c = true then yScan r (cur ++ [c]) else if cur.length = 4 then cur else yScan r []
def year (s : By) : By := yScan s []
/-! the values that are compared -/
def norm (n : Int) (s : By) : By :=
  if n = 1 then join (Tx.words s) [32] else if n = 2 then isbn s else if n = 3 then Wr.clip 4 (join (Tx.words s) [32]) else if n = 4 then year s else s
structure Key where
  tag : ByteArray
  code : UInt8
  norm : Int
  weight : Int
structure Rule where
  keys : List Key
  need : Int
def valsF (k : Key) (f : Fl) : List By := if f.tag.data.toList = k.tag.data.toList then ((f.subs.filter fun x => x.1 == k.code).map fun x => norm k.norm x.2.data.toList).filter fun v => !(v == []) else []
def vals (k : Key) (fs : List Fl) : List By := fs.flatMap (valsF k)
def keys (k : Key) (fs : List Fl) : List By := Cp.puts Cp.ltB (vals k fs)
def meet (a b : List By) : Bool := a.any fun x => decide (x ∈ b)
theorem meet_comm (a b : List By) : meet a b = meet b a := by
  unfold meet
  rw [Bool.eq_iff_iff, List.any_eq_true, List.any_eq_true]
  constructor
  · rintro ⟨x, h1, h2⟩; exact ⟨x, of_decide_eq_true h2, decide_eq_true h1⟩
  · rintro ⟨x, h1, h2⟩; exact ⟨x, of_decide_eq_true h2, decide_eq_true h1⟩
def score (m : Rule) (a b : Rd) : Int := (m.keys.map fun k => if meet (keys k a.fields) (keys k b.fields) = true then k.weight else 0).sum
theorem score_comm (m : Rule) (a b : Rd) : score m a b = score m b a := by
  unfold score
  congr 1
  refine List.map_congr_left fun k _ => ?_
  rw [meet_comm]
/-! what is found: the greater score first, then the smaller number -/
def ltF (x y : Int × Int) : Bool := decide (y.2 < x.2) || (decide (x.2 = y.2) && decide (x.1 < y.1))
theorem ordF : Cp.Ord ltF := by
  refine ⟨fun x => ?_, fun {x y z} h1 h2 => ?_, fun {x y} h1 h2 => ?_⟩
  · unfold ltF; simp
  · unfold ltF at *; simp only [Bool.or_eq_true, Bool.and_eq_true, decide_eq_true_eq] at *; omega
  · unfold ltF at *
    simp only [Bool.or_eq_true, Bool.and_eq_true, decide_eq_true_eq, Bool.or_eq_false_iff, Bool.and_eq_false_iff, decide_eq_false_iff_not] at *
    have h3 : ¬ (x.1 = y.1 ∧ x.2 = y.2) := fun h9 => h2 (Prod.ext h9.1 h9.2)
    omega
def hitsF (m : Rule) (l : List Rd) (r : Rd) : List (Int × Int) := (l.filter fun x => !(x.id == r.id) && decide (m.need ≤ score m x r)).map fun x => (x.id, score m x r)
def find (m : Rule) (l : List Rd) (r : Rd) : List Int := (Cp.puts ltF (hitsF m l r)).map (·.1)
/-! pairs -/
def ltP (x y : Int × Int) : Bool := decide (x.1 < y.1) || (decide (x.1 = y.1) && decide (x.2 < y.2))
theorem ordP : Cp.Ord ltP := by
  refine ⟨fun x => ?_, fun {x y z} h1 h2 => ?_, fun {x y} h1 h2 => ?_⟩
  · unfold ltP; simp
  · unfold ltP at *; simp only [Bool.or_eq_true, Bool.and_eq_true, decide_eq_true_eq] at *; omega
  · unfold ltP at *
    simp only [Bool.or_eq_true, Bool.and_eq_true, decide_eq_true_eq, Bool.or_eq_false_iff, Bool.and_eq_false_iff, decide_eq_false_iff_not] at *
    have h3 : ¬ (x.1 = y.1 ∧ x.2 = y.2) := fun h9 => h2 (Prod.ext h9.1 h9.2)
    omega
def hitsP (m : Rule) (l : List Rd) : List (Int × Int) := l.flatMap fun a => (l.filter fun b => decide (a.id < b.id) && decide (m.need ≤ score m a b)).map fun b => (a.id, b.id)
def pairs (m : Rule) (l : List Rd) : List (Int × Int) := Cp.puts ltP (hitsP m l)
end Mt
end Go.Proofs.YtogpghpgnpoioaaGreatDoor

/- Plain: the first run of four digits among the fields that strings.FieldsFunc makes. -/
namespace Go.Proofs.YtogpghpgnpoioaaGreatDoor
set_option maxRecDepth 100000
namespace Mt
open Go.Lib Rc Tx
def sepD (c : Nat) : Bool := decide (c < 48) || decide (57 < c)
theorem sepD_dig (b : UInt8) : sepD b.toNat = !dig b := by
  unfold sepD dig
  rw [Bool.eq_iff_iff]
  simp
/-- What the scan of the rest gives, the fields so far at hand. -/
def yRes (st : List By × By) (l : By) : By := match st.1.find? (fun x => x.length == 4) with
  | some x => x
  | none => yScan l st.2
theorem yScan_skip : ∀ (q r : By), (∀ b ∈ q, dig b = false) → yScan (q ++ r) [] = yScan r []
  | [], _, _ => rfl
  | b :: q, r, h => by
    rw [List.cons_append, yScan, if_neg (by rw [h b (List.mem_cons_self ..)]; decide), if_neg (by simp)]
    exact yScan_skip q r (fun x hx => h x (List.mem_cons_of_mem _ hx))
theorem yRes_push (acc : List By) (cur l : By) (b : UInt8) (q : By) (hq : ∀ x ∈ b :: q, dig x = false) : yRes (if cur = [] then (acc, cur) else (acc ++ [cur], [])) l = yRes (acc, cur) ((b :: q) ++ l) := by
  have h1 := hq b (List.mem_cons_self ..)
  have h2 := yScan_skip q l (fun x hx => hq x (List.mem_cons_of_mem _ hx))
  unfold yRes
  by_cases hc : cur = []
  · rw [if_pos hc]
    subst hc
    cases acc.find? (fun x => x.length == 4) with
    | some x => rfl
    | none =>
      simp only
      rw [List.cons_append, yScan, if_neg (by rw [h1]; decide), if_neg (by simp), h2]
  · rw [if_neg hc]
    simp only [List.find?_append]
    cases acc.find? (fun x => x.length == 4) with
    | some x => rfl
    | none =>
      simp only [Option.none_or]
      rw [List.cons_append, yScan, if_neg (by rw [h1]; decide)]
      by_cases h4 : cur.length = 4
      · rw [if_pos h4, List.find?_cons_of_pos (by simpa using h4)]
      · rw [if_neg h4, List.find?_cons_of_neg (by simpa using h4), List.find?_nil]
        exact h2.symm
/-- A byte past the ASCII ones is no digit. -/
theorem hi_dig {x : UInt8} (hx : 128 ≤ x.toNat) : dig x = false := by
  unfold dig
  rw [Bool.eq_false_iff]
  intro h
  rw [Bool.and_eq_true, decide_eq_true_eq, decide_eq_true_eq] at h
  omega
theorem arith2 {a b : Nat} (h : 160 ≤ (a - 192) * 64 + b - 128) : 57 < (a - 192) * 64 + b - 128 := by omega
theorem arith3 {a b c : Nat} {P : Prop} (h : 2048 ≤ (a - 224) * 4096 + (b - 128) * 64 + c - 128 ∧ P) : 57 < (a - 224) * 4096 + (b - 128) * 64 + c - 128 := by
  have := h.1
  generalize (a - 224) * 4096 + (b - 128) * 64 + c - 128 = z at this ⊢
  omega
/-- The bytes of a character. -/
theorem rdec_bytes {l : By} (hne : l ≠ []) (h : (rdec l).2 ≠ 0) : (∃ b, l.take (rdec l).2 = [b] ∧ (rdec l).1 = b.toNat) ∨ (57 < (rdec l).1 ∧ ∃ b q, l.take (rdec l).2 = b :: q ∧ ∀ x ∈ b :: q, dig x = false) := by
  obtain ⟨b0, l1, rfl⟩ := List.exists_cons_of_ne_nil hne
  unfold rdec rdecN at h ⊢
  simp only [List.getD_cons_zero, List.getD_cons_succ] at h ⊢
  split
  · exact .inl ⟨b0, rfl, rfl⟩
  · rename_i h1
    rw [if_neg h1] at h
    split
    · rename_i h2
      rw [if_pos h2] at h
      split
      · rename_i h3
        obtain ⟨b1, l2, rfl⟩ : ∃ b1 l2, l1 = b1 :: l2 := by
          cases l1 with
          | nil => exact absurd h2.2.2.1 (by simp)
          | cons b1 l2 => exact ⟨b1, l2, rfl⟩
        obtain ⟨c1, -, -, c2, -⟩ := h2
        clear h
        refine .inr ⟨arith2 h3, b0, [b1], rfl, fun x hx => ?_⟩
        clear h3
        simp only [List.mem_cons, List.not_mem_nil, or_false] at hx
        simp only [List.getD_cons_zero] at c2
        rcases hx with hx | hx
        · rw [hx]; exact hi_dig (Nat.le_trans (by decide) c1)
        · rw [hx]; exact hi_dig c2
      · rename_i h3
        rw [if_neg h3] at h
        exact absurd rfl h
    · rename_i h2
      rw [if_neg h2] at h
      split
      · rename_i h4
        rw [if_pos h4] at h
        split
        · rename_i h3
          obtain ⟨b1, b2, l3, rfl⟩ : ∃ b1 b2 l3, l1 = b1 :: b2 :: l3 := by
            rcases l1 with _ | ⟨b1, _ | ⟨b2, l3⟩⟩
            · exact absurd h4.2.2.1 (by simp)
            · exact absurd h4.2.2.1 (by simp)
            · exact ⟨b1, b2, l3, rfl⟩
          obtain ⟨c1, -, -, c2, -, c3, -⟩ := h4
          clear h
          refine .inr ⟨arith3 h3, b0, [b1, b2], rfl, fun x hx => ?_⟩
          clear h3
          simp only [List.mem_cons, List.not_mem_nil, or_false] at hx
          simp only [List.getD_cons_zero, List.getD_cons_succ] at c2 c3
          rcases hx with hx | hx | hx
          · rw [hx]; exact hi_dig (Nat.le_trans (by decide) c1)
          · rw [hx]; exact hi_dig c2
          · rw [hx]; exact hi_dig c3
        · rename_i h3
          rw [if_neg h3] at h
          exact absurd rfl h
      · rename_i h4
        rw [if_neg h4] at h
        exact absurd rfl h
theorem year_fields {s : By} (hv : valid s = true) : ((fieldsT sepD s).find? fun x => x.length == 4).getD [] = year s := by
  have key := foldT_ind (wStep sepD) (fun st l => yRes st l = year s) (fun st l hne hvl h => by
    obtain ⟨hz, _, hw, _, _⟩ := valid_head hne hvl
    have hl : l.take (wid l) ++ l.drop (wid l) = l := List.take_append_drop _ _
    obtain ⟨acc, cur⟩ := st
    rw [hw] at hl ⊢
    unfold wStep
    rcases rdec_bytes hne hz with ⟨b, e1, e2⟩ | ⟨hc, b, q, e1, hq⟩
    · rw [e2, sepD_dig]
      cases hd : dig b with
      | true =>
        rw [if_neg (by simp), e1]
        rw [e1] at hl
        refine Eq.trans ?_ ((congrArg (yRes (acc, cur)) hl).trans h)
        unfold yRes
        simp only
        cases acc.find? (fun x => x.length == 4) with
        | some x => rfl
        | none => simp only; rw [List.singleton_append, yScan, if_pos hd]
      | false =>
        rw [if_pos (by simp)]
        simp only
        rw [yRes_push acc cur _ b [] (fun x hx => by rw [List.mem_singleton] at hx; rw [hx]; exact hd), ← e1, hl]
        exact h
    · rw [if_pos (by unfold sepD; simp; omega)]
      simp only
      rw [yRes_push acc cur _ b q hq, ← e1, hl]
      exact h) s.length ([], []) s (Nat.le_refl _) hv rfl
  unfold fieldsT wEnd
  generalize foldT (wStep sepD) ([], []) s = st at key ⊢
  obtain ⟨acc, cur⟩ := st
  simp only at key ⊢
  rw [← key]
  unfold yRes
  simp only
  by_cases hc : cur = []
  · rw [if_pos hc]
    subst hc
    cases acc.find? (fun x => x.length == 4) with
    | some x => rfl
    | none => rfl
  · rw [if_neg hc, List.find?_append]
    cases acc.find? (fun x => x.length == 4) with
    | some x => rfl
    | none =>
      simp only [Option.none_or, yScan]
      by_cases h4 : cur.length = 4
      · rw [if_pos h4, List.find?_cons_of_pos (by simpa using h4)]; rfl
      · rw [if_neg h4, List.find?_cons_of_neg (by simpa using h4)]; rfl
end Mt
end Go.Proofs.YtogpghpgnpoioaaGreatDoor
