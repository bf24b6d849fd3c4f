/- Plain: fields and records as lists, and what the functions of the layers 7 and 8 compute of them; no program stands in this file. -/
import Derived.Test.YtkahplbjbidemaaGreatDoorTxA
import Derived.Test.YtkahplbjbidemaaGreatDoorNmA
namespace Go.Proofs.YtkahplbjbidemaaGreatDoor
namespace Tx
theorem cleanFold_len' : ∀ (n : Nat) (l : List UInt8) (out : List UInt8) (gap : Bool), l.length ≤ n → (foldT cleanStep (out, gap) l).1.length ≤ out.length + 2 * l.length
  | 0, l, out, gap, h => by
    have : l = [] := List.eq_nil_of_length_eq_zero (by omega)
    subst this
    rw [foldT_nil]
    simp
  | n + 1, l, out, gap, h => by
    by_cases hne : l = []
    · subst hne
      rw [foldT_nil]
      simp
    · have hw := wid_pos l
      have hl := wid_le hne
      rw [foldT_step cleanStep _ hne]
      have ih := fun o g => cleanFold_len' n (l.drop (wid l)) o g (by rw [List.length_drop]; omega)
      have e : (cleanStep (out, gap) (l.take (wid l)) (rdec l).1).1.length ≤ out.length + 1 + wid l := by
        unfold cleanStep
        repeat' split
        all_goals simp only [List.length_append, List.length_take, List.length_cons, List.length_nil]
        all_goals omega
      have h2 := ih (cleanStep (out, gap) (l.take (wid l)) (rdec l).1).1 (cleanStep (out, gap) (l.take (wid l)) (rdec l).1).2
      rw [List.length_drop] at h2
      refine Nat.le_trans h2 ?_
      omega
theorem clean_len' (l : List UInt8) : (clean l).length ≤ 2 * l.length := by
  have := cleanFold_len' l.length l [] false (Nat.le_refl _)
  simpa [clean] using this
end Tx
namespace Rc
open Go.Lib
abbrev By := List UInt8

/-- A field. -/
structure Fl where
  tag : ByteArray
  ind : ByteArray
  subs : List (UInt8 × ByteArray)
  auth : Int
def hasCode (codes : By) (c : UInt8) : Bool := codes.isEmpty || codes.contains c
def allV (l : List (UInt8 × ByteArray)) (codes : By) : List ByteArray := (l.filter fun x => hasCode codes x.1).map (·.2)
def bys (l : List ByteArray) : List By := l.map (·.data.toList)
def plain (l : List (UInt8 × ByteArray)) (codes : By) : By := join (bys (allV l codes)) [32]
def get (l : List (UInt8 × ByteArray)) (c : UInt8) : Option ByteArray := (l.find? fun x => x.1 == c).map (·.2)
def tagIs (t : By) (f : Fl) : Bool := f.tag.data.toList == t
def first (fs : List Fl) (t : By) : Option Fl := fs.find? (tagIs t)
def title (fs : List Fl) : By := match first fs [50, 52, 53] with
  | none => []
  | some f => Tx.clean (plain f.subs [97, 98])
def authorT (fs : List Fl) (t : By) : Option ByteArray := (first fs t).bind fun f => get f.subs 97
def author (fs : List Fl) : By :=
  match authorT fs [49, 48, 48] with
  | some v => v.data.toList
  | none => match authorT fs [49, 49, 48] with
    | some v => v.data.toList
    | none => match authorT fs [55, 48, 48] with
      | some v => v.data.toList
      | none => []

/-- The first year in a text, as the reference looks for it: the number so far, and the number of digits. -/
def yr : Nat → Nat → By → Nat
  | n, d, [] => if d = 4 ∧ 1000 ≤ n ∧ n ≤ 2199 then n else 0
  | n, d, c :: r => if 48 ≤ c.toNat ∧ c.toNat ≤ 57 then yr (if d + 1 ≤ 4 then n * 10 + (c.toNat - 48) else n) (d + 1) r
    else if d = 4 ∧ 1000 ≤ n ∧ n ≤ 2199 then n else yr 0 0 r
def yearIn (s : By) : Nat := yr 0 0 s
def firstNZ : List Nat → Nat
  | [] => 0
  | n :: r => if n = 0 then firstNZ r else n
def pubTag (f : Fl) : Bool := tagIs [50, 54, 48] f || tagIs [50, 54, 52] f
def yearF (l : List ByteArray) : Nat := firstNZ (l.map fun x => yearIn x.data.toList)
def year (fs : List Fl) : Nat := firstNZ (fs.map fun f => if pubTag f then yearF (allV f.subs [99]) else 0)

/-- Of moderate size, and texts. -/
def Gd (f : Fl) : Prop := f.subs.length ≤ 1000 ∧ ∀ x ∈ f.subs, x.2.size ≤ 100000 ∧ Tx.valid x.2.data.toList = true

theorem lens_le : ∀ (l : List By) (M : Nat), (∀ x ∈ l, x.length ≤ M) → lens l ≤ l.length * M
  | [], M, _ => by simp [lens]
  | x :: r, M, h => by
    have h1 := h x (by simp)
    have h2 := lens_le r M (fun y hy => h y (by simp [hy]))
    have e : lens (x :: r) = x.length + lens r := by simp [lens]
    rw [e, List.length_cons, Nat.succ_mul]
    omega
theorem join_le (l : List By) (sep : By) (M : Nat) (h : ∀ x ∈ l, x.length ≤ M) : (join l sep).length ≤ l.length * (M + sep.length) := by
  cases l with
  | nil => simp [join_nil]
  | cons x r =>
    have h1 := h x (by simp)
    have h2 := lens_le r M (fun y hy => h y (by simp [hy]))
    rw [join_cons, List.length_append, joinTail_length, List.length_cons, Nat.succ_mul, Nat.mul_add, Nat.mul_comm sep.length]
    omega
theorem allV_mem {l : List (UInt8 × ByteArray)} {c : By} {x : ByteArray} (h : x ∈ allV l c) : ∃ y ∈ l, y.2 = x := by
  unfold allV at h
  rw [List.mem_map] at h
  obtain ⟨y, hy, rfl⟩ := h
  exact ⟨y, (List.mem_filter.1 hy).1, rfl⟩
theorem allV_len (l : List (UInt8 × ByteArray)) (c : By) : (allV l c).length ≤ l.length := by
  unfold allV
  rw [List.length_map]
  exact List.length_filter_le _ _
theorem Gd.all {f : Fl} (h : Gd f) (c : By) : (allV f.subs c).length ≤ 1000 ∧ ∀ x ∈ bys (allV f.subs c), x.length ≤ 100000 ∧ Tx.valid x = true := by
  refine ⟨Nat.le_trans (allV_len _ _) h.1, fun x hx => ?_⟩
  unfold bys at hx
  rw [List.mem_map] at hx
  obtain ⟨y, hy, rfl⟩ := hx
  obtain ⟨z, hz, rfl⟩ := allV_mem hy
  have := h.2 z hz
  rw [← size_eq]
  exact this
theorem Gd.join_le {f : Fl} (h : Gd f) (c sep : By) (hs : sep.length ≤ 10) : (join (bys (allV f.subs c)) sep).length ≤ 200000000 := by
  have h1 := h.all c
  have h2 := Rc.join_le (bys (allV f.subs c)) sep 100000 (fun x hx => (h1.2 x hx).1)
  have h3 : (bys (allV f.subs c)).length ≤ 1000 := by unfold bys; rw [List.length_map]; exact h1.1
  have h4 : (bys (allV f.subs c)).length * (100000 + sep.length) ≤ 1000 * (100000 + 10) := Nat.mul_le_mul h3 (by omega)
  omega
theorem Gd.plain_le {f : Fl} (h : Gd f) (c : By) : (plain f.subs c).length ≤ 200000000 := h.join_le c [32] (by simp)

/-! ### texts put together -/
theorem getD_app {a : By} (b : By) {j : Nat} (h : j < a.length) : (a ++ b).getD j 0 = a.getD j 0 := by
  rw [List.getD_eq_getElem?_getD, List.getD_eq_getElem?_getD, List.getElem?_append_left h]
theorem decodeN_more (n m b0 b1 b2 : Nat) (c1 c2 : Nat) (hn : n ≤ m) (h1 : 1 < n → c1 = b1) (h2 : 2 < n → c2 = b2) (hk : (Tx.rdecN n b0 b1 b2).2 ≠ 0) : Tx.rdecN m b0 c1 c2 = Tx.rdecN n b0 b1 b2 := by
  unfold Tx.rdecN at hk ⊢
  by_cases ha : 32 ≤ b0 ∧ b0 < 127
  · simp only [if_pos ha]
  · simp only [if_neg ha] at hk ⊢
    by_cases hb : 194 ≤ b0 ∧ b0 < 224 ∧ 1 < n ∧ 128 ≤ b1 ∧ b1 < 192
    · have e := h1 hb.2.2.1
      subst e
      rw [if_pos hb, if_pos ⟨hb.1, hb.2.1, by omega, hb.2.2.2.1, hb.2.2.2.2⟩]
    · rw [if_neg hb] at hk ⊢
      by_cases hc : 224 ≤ b0 ∧ b0 < 240 ∧ 2 < n ∧ 128 ≤ b1 ∧ b1 < 192 ∧ 128 ≤ b2 ∧ b2 < 192
      · have e := h1 (by omega)
        subst e
        have e2 := h2 hc.2.2.1
        subst e2
        rw [if_pos hc, if_neg (by omega), if_pos ⟨hc.1, hc.2.1, by omega, hc.2.2.2⟩]
      · rw [if_neg hc] at hk
        exact absurd rfl hk
theorem rdec_append {a : By} (b : By) (hne : a ≠ []) (h : (Tx.rdec a).2 ≠ 0) : Tx.rdec (a ++ b) = Tx.rdec a := by
  have hl : 0 < a.length := List.length_pos_iff.2 hne
  unfold Tx.rdec at h ⊢
  have e0 : (a ++ b).getD 0 0 = a.getD 0 0 := by rw [getD_app b hl]
  rw [e0]
  exact decodeN_more _ _ _ _ _ _ _ (by rw [List.length_append]; omega) (fun h1 => by rw [getD_app b h1]) (fun h1 => by rw [getD_app b h1]) h
theorem valid_append : ∀ (n : Nat) (a b : By), a.length ≤ n → Tx.valid a = true → Tx.valid (a ++ b) = Tx.valid b
  | 0, a, b, hn, _ => by
    have : a = [] := List.eq_nil_of_length_eq_zero (by omega)
    subst this
    rfl
  | n + 1, a, b, hn, hv => by
    by_cases hne : a = []
    · subst hne; rfl
    · obtain ⟨hz, _, hw, hv2, _⟩ := Tx.valid_head hne hv
      have hle := Tx.rdec_le hne
      rw [Tx.valid_step (by simp [hne]), rdec_append b hne hz, if_neg hz, List.drop_append_of_le_length hle]
      rw [hw] at hv2
      exact valid_append n _ b (by rw [List.length_drop]; omega) hv2
theorem valid_app {a b : By} (ha : Tx.valid a = true) (hb : Tx.valid b = true) : Tx.valid (a ++ b) = true := by rw [valid_append a.length a b (Nat.le_refl _) ha, hb]
theorem valid_joinTail : ∀ (l : List By) (sep : By), (∀ x ∈ l, Tx.valid x = true) → Tx.valid sep = true → Tx.valid (joinTail sep l) = true
  | [], sep, _, _ => rfl
  | x :: r, sep, h, hs => by
    have e : joinTail sep (x :: r) = (sep ++ x) ++ joinTail sep r := by simp [joinTail]
    rw [e]
    exact valid_app (valid_app hs (h x (by simp))) (valid_joinTail r sep (fun y hy => h y (by simp [hy])) hs)
theorem valid_join (l : List By) (sep : By) (h : ∀ x ∈ l, Tx.valid x = true) (hs : Tx.valid sep = true) : Tx.valid (join l sep) = true := by
  cases l with
  | nil => rfl
  | cons x r => rw [join_cons]; exact valid_app (h x (by simp)) (valid_joinTail r sep (fun y hy => h y (by simp [hy])) hs)
theorem Gd.plain_valid {f : Fl} (h : Gd f) (c : By) : Tx.valid (plain f.subs c) = true := valid_join _ _ (fun x hx => ((h.all c).2 x hx).2) (by decide)
theorem first_mem {fs : List Fl} {t : By} {f : Fl} (h : first fs t = some f) : f ∈ fs := List.mem_of_find?_eq_some h
theorem get_mem {l : List (UInt8 × ByteArray)} {c : UInt8} {v : ByteArray} (h : get l c = some v) : ∃ x ∈ l, x.2 = v := by
  unfold get at h
  rw [Option.map_eq_some_iff] at h
  obtain ⟨x, hx, rfl⟩ := h
  exact ⟨x, List.mem_of_find?_eq_some hx, rfl⟩

/-! ### the year: the program's way -/
theorem yr_le : ∀ (l : By) (n d : Nat), yr n d l ≤ 2199
  | [], n, d => by unfold yr; split <;> omega
  | c :: r, n, d => by
    unfold yr
    repeat' split
    all_goals first | exact yr_le r _ _ | omega
abbrev isD (c : UInt8) : Prop := 48 ≤ c.toNat ∧ c.toNat ≤ 57
theorem yr_digit (n d : Nat) (c : UInt8) (r : By) (h : isD c) : yr n d (c :: r) = yr (if d + 1 ≤ 4 then n * 10 + (c.toNat - 48) else n) (d + 1) r := by
  conv => lhs; unfold yr
  rw [if_pos h]
theorem yr_other (n d : Nat) (c : UInt8) (r : By) (h : ¬ isD c) : yr n d (c :: r) = if d = 4 ∧ 1000 ≤ n ∧ n ≤ 2199 then n else yr 0 0 r := by
  conv => lhs; unfold yr
  rw [if_neg h]
theorem yr_nil (n d : Nat) : yr n d [] = if d = 4 ∧ 1000 ≤ n ∧ n ≤ 2199 then n else 0 := by unfold yr; rfl
theorem yr_run : ∀ (p r : By) (n d : Nat), (∀ c ∈ p, isD c) → ∃ m, yr n d (p ++ r) = yr m (d + p.length) r
  | [], r, n, d, _ => ⟨n, rfl⟩
  | c :: p, r, n, d, h => by
    obtain ⟨m, hm⟩ := yr_run p r (if d + 1 ≤ 4 then n * 10 + (c.toNat - 48) else n) (d + 1) (fun x hx => h x (by simp [hx]))
    refine ⟨m, ?_⟩
    rw [List.cons_append, yr_digit _ _ _ _ (h c (by simp)), hm, List.length_cons, show d + 1 + p.length = d + (p.length + 1) by omega]
theorem yr_end (r : By) (n d : Nat) (h : ∀ c t, r = c :: t → ¬ isD c) : yr n d r = if d = 4 ∧ 1000 ≤ n ∧ n ≤ 2199 then n else yr 0 0 (r.drop 1) := by
  cases r with
  | nil => rw [yr_nil]; split <;> first | rfl | (rw [List.drop_nil, yr_nil, if_neg (by omega)])
  | cons c t => rw [yr_other _ _ _ _ (h c t rfl)]; rfl
theorem drop_cons (L : By) (i : Nat) (h : i < L.length) : L.drop i = L.getD i 0 :: L.drop (i + 1) := by
  rw [List.drop_eq_getElem_cons h, List.getD_eq_getElem?_getD, List.getElem?_eq_getElem h]
  rfl
theorem year_round (L : By) (i k : Nat) (hik : i ≤ k) (hk : k ≤ L.length) (hd : ∀ j, i ≤ j → j < k → isD (L.getD j 0)) (he : k < L.length → ¬ isD (L.getD k 0)) (v : Nat)
    (hv : k - i = 4 → v = ((L.getD i 0).toNat - 48) * 1000 + ((L.getD (i + 1) 0).toNat - 48) * 100 + ((L.getD (i + 2) 0).toNat - 48) * 10 + ((L.getD (i + 3) 0).toNat - 48)) :
    yr 0 0 (L.drop i) = if k - i = 4 ∧ 1000 ≤ v ∧ v ≤ 2199 then v else yr 0 0 (L.drop (k + 1)) := by
  have hend : ∀ c t, L.drop k = c :: t → ¬ isD c := by
    intro c t h
    have hlt : k < L.length := by
      rcases Nat.lt_or_ge k L.length with h1 | h1
      · exact h1
      · rw [List.drop_eq_nil_of_le h1] at h; cases h
    rw [drop_cons L k hlt] at h
    injection h with h1 _
    rw [← h1]
    exact he hlt
  by_cases h4 : k - i = 4
  · have e : L.drop i = L.getD i 0 :: L.getD (i + 1) 0 :: L.getD (i + 2) 0 :: L.getD (i + 3) 0 :: L.drop k := by
      rw [drop_cons L i (by omega), drop_cons L (i + 1) (by omega), drop_cons L (i + 2) (by omega), drop_cons L (i + 3) (by omega), show i + 3 + 1 = k by omega]
    have hv' := hv h4
    rw [e, yr_digit _ _ _ _ (hd i (by omega) (by omega)), yr_digit _ _ _ _ (hd (i + 1) (by omega) (by omega)), yr_digit _ _ _ _ (hd (i + 2) (by omega) (by omega)), yr_digit _ _ _ _ (hd (i + 3) (by omega) (by omega)), yr_end _ _ _ hend, List.drop_drop]
    simp only [Nat.reduceAdd, Nat.reduceLeDiff, if_true]
    have e2 : (((0 * 10 + ((L.getD i 0).toNat - 48)) * 10 + ((L.getD (i + 1) 0).toNat - 48)) * 10 + ((L.getD (i + 2) 0).toNat - 48)) * 10 + ((L.getD (i + 3) 0).toNat - 48) = v := by rw [hv']; omega
    rw [e2]
    simp [h4]
  · have e : L.drop i = (L.drop i).take (k - i) ++ L.drop k := by
      have := (List.take_append_drop (k - i) (L.drop i)).symm
      rw [List.drop_drop, show i + (k - i) = k by omega] at this
      exact this
    obtain ⟨m, hm⟩ := yr_run ((L.drop i).take (k - i)) (L.drop k) 0 0 (by
      intro c hc
      obtain ⟨j, hj, rfl⟩ := List.mem_iff_getElem.1 hc
      rw [List.length_take, List.length_drop] at hj
      have h1 := hd (i + j) (by omega) (by omega)
      rw [List.getElem_take, List.getElem_drop]
      rw [List.getD_eq_getElem?_getD, List.getElem?_eq_getElem (by omega)] at h1
      exact h1)
    rw [e, hm, List.length_take, List.length_drop, yr_end _ _ _ hend, List.drop_drop, if_neg (by omega), if_neg (by omega)]
end Rc
end Go.Proofs.YtkahplbjbidemaaGreatDoor
