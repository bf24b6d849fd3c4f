/- Plain: no byte of a search word is a sign; the tokens at the front of a text. -/
import Derived.Test.YtkahplbjbidemaaGreatDoorQpP
namespace Go.Proofs.YtkahplbjbidemaaGreatDoor
set_option maxRecDepth 100000

namespace Tx
open Go.Lib
abbrev Byt := List UInt8
/-- A byte that may stand in a word. -/
def okB (b : UInt8) : Prop := 128 ≤ b.toNat ∨ (97 ≤ b.toNat ∧ b.toNat ≤ 122) ∨ (48 ≤ b.toNat ∧ b.toNat ≤ 57)
theorem take_getD {l : Byt} {k : Nat} {b : UInt8} (h : b ∈ l.take k) : ∃ j, j < k ∧ j < l.length ∧ l.getD j 0 = b := by
  obtain ⟨j, hj, rfl⟩ := List.mem_iff_getElem.1 h
  rw [List.length_take] at hj
  refine ⟨j, by omega, by omega, ?_⟩
  rw [List.getD_eq_getElem?_getD, List.getElem?_eq_getElem (by omega), List.getElem_take]
  rfl
theorem piece_ok {l : Byt} (h : letter (rdec l).1 = true) : ∀ b ∈ l.take (rdec l).2, okB b := by
  intro b hb
  obtain ⟨j, hj, _, rfl⟩ := take_getD hb
  unfold letter at h
  simp only [Bool.or_eq_true, decide_eq_true_iff] at h
  unfold okB
  unfold rdec rdecN at hj h
  by_cases ha : 32 ≤ (l.getD 0 0).toNat ∧ (l.getD 0 0).toNat < 127
  · rw [if_pos ha] at hj h
    simp only at hj h
    obtain rfl : j = 0 := by omega
    omega
  · rw [if_neg ha] at hj h
    by_cases hc : 194 ≤ (l.getD 0 0).toNat ∧ (l.getD 0 0).toNat < 224 ∧ 1 < l.length ∧ 128 ≤ (l.getD 1 0).toNat ∧ (l.getD 1 0).toNat < 192
    · rw [if_pos hc] at hj h
      split at hj
      · simp only at hj
        rcases (show j = 0 ∨ j = 1 by omega) with rfl | rfl <;> omega
      · simp only at hj; omega
    · rw [if_neg hc] at hj h
      by_cases hd : 224 ≤ (l.getD 0 0).toNat ∧ (l.getD 0 0).toNat < 240 ∧ 2 < l.length ∧ 128 ≤ (l.getD 1 0).toNat ∧ (l.getD 1 0).toNat < 192 ∧ 128 ≤ (l.getD 2 0).toNat ∧ (l.getD 2 0).toNat < 192
      · rw [if_pos hd] at hj h
        split at hj
        · simp only at hj
          rcases (show j = 0 ∨ j = 1 ∨ j = 2 by omega) with rfl | rfl | rfl <;> omega
        · simp only at hj; omega
      · rw [if_neg hd] at hj
        simp only at hj; omega
theorem words_ok {l : Byt} (hv : valid l = true) : ∀ w ∈ words l, ∀ b ∈ w, okB b := by
  have h := foldT_ind (wStep sepW) (fun st _ => (∀ w ∈ st.1, ∀ b ∈ w, okB b) ∧ ∀ b ∈ st.2, okB b) (fun st m hne hm ⟨h1, h2⟩ => by
    obtain ⟨_, _, hw, _, _⟩ := valid_head hne hm
    unfold wStep
    split
    · split
      · exact ⟨h1, h2⟩
      · refine ⟨fun w hw2 => ?_, by simp⟩
        rcases List.mem_append.1 hw2 with hw2 | hw2
        · exact h1 w hw2
        · rw [List.mem_singleton] at hw2; rw [hw2]; exact h2
    · rename_i hs
      refine ⟨h1, fun b hb => ?_⟩
      rcases List.mem_append.1 hb with hb | hb
      · exact h2 b hb
      · rw [hw] at hb
        exact piece_ok (by unfold sepW at hs; simpa using hs) b hb) (foldS l).length ([], []) (foldS l) (Nat.le_refl _) (foldS_valid hv) ⟨by simp, by simp⟩
  intro w hw
  unfold words fieldsT wEnd at hw
  split at hw
  · exact h.1 w hw
  · rcases List.mem_append.1 hw with hw | hw
    · exact h.1 w hw
    · rw [List.mem_singleton] at hw; rw [hw]; exact h.2
end Tx

namespace Qr
open Go.Lib
theorem isWord_iff {s : ByteArray} (h : isWord s = true) : Tx.valid s.data.toList = true ∧ Tx.words s.data.toList = [s.data.toList] ∧ s.data.toList ≠ [] ∧ ∀ b ∈ s.data.toList, Tx.okB b := by
  unfold isWord at h
  rw [Bool.and_eq_true, beq_iff_eq] at h
  have hm : s.data.toList ∈ Tx.words s.data.toList := by rw [h.2]; simp
  refine ⟨h.1, h.2, ((Tx.fieldsT_good Tx.sepW (Tx.foldS_valid h.1)).1 _ hm).2, Tx.words_ok h.1 _ hm⟩
theorem ok_sgn {b : UInt8} (h : Tx.okB b) : sgn b = false := by
  unfold Tx.okB at h
  unfold sgn
  have e : ∀ n : UInt8, n.toNat < 48 ∨ n.toNat = 58 → (b == n) = false := fun n hn => by
    rw [beq_eq_false_iff_ne]
    rintro rfl
    omega
  rw [e 32 (by decide), e 40 (by decide), e 41 (by decide), e 58 (by decide), e 42 (by decide), e 34 (by decide)]
  rfl
theorem sgn_eq {b : UInt8} : sgn b = true ↔ b = 32 ∨ b = 40 ∨ b = 41 ∨ b = 58 ∨ b = 42 ∨ b = 34 := by
  unfold sgn
  simp only [Bool.or_eq_true, beq_iff_eq, or_assoc]

/-! the tokens at the front of a text -/
/-- A run ends before this. -/
def Br (r : By) : Prop := r = [] ∨ ∃ c t, r = c :: t ∧ sgn c = true
theorem run_app {w r : By} (hw : ∀ b ∈ w, sgn b = false) (hr : Br r) : run (w ++ r) = w := by
  unfold run
  rw [List.takeWhile_append_of_pos (fun b hb => by rw [hw b hb]; rfl)]
  rcases hr with rfl | ⟨c, t, rfl, hc⟩
  · simp
  · rw [List.takeWhile_cons_of_neg (by rw [hc]; simp), List.append_nil]
theorem tokF_runW (g : Bool) {w r : By} (hne : w ≠ []) (hw : ∀ b ∈ w, sgn b = false) (hr : Br r) : tokF g (w ++ r) = ⟨114, w, g⟩ :: tokF true r := by
  cases w with
  | nil => exact absurd rfl hne
  | cons c v =>
    have hc := hw c (by simp)
    have hn : ¬ (c = 32 ∨ c = 40 ∨ c = 41 ∨ c = 58 ∨ c = 42 ∨ c = 34) := fun h => by rw [sgn_eq.2 h] at hc; cases hc
    rw [List.cons_append, tokF_cons, if_neg (fun h => hn (.inl h)), if_neg (fun h => hn (by rcases h with h | h | h | h <;> simp [h])), if_neg (fun h => hn (by simp [h])), run_app (fun b hb => hw b (by simp [hb])) hr, List.drop_left]
theorem tokF_sp (g : Bool) (r : By) : tokF g (32 :: r) = tokF false r := by rw [tokF_cons, if_pos rfl]
theorem tokF_sig (g : Bool) {c : UInt8} (r : By) (h : c = 40 ∨ c = 41 ∨ c = 58 ∨ c = 42) : tokF g (c :: r) = ⟨c, [], g⟩ :: tokF true r := by
  rw [tokF_cons, if_neg (by rcases h with rfl | rfl | rfl | rfl <;> decide), if_pos h]
theorem tokF_quo (g : Bool) {x : By} (r : By) (h : (34 : UInt8) ∉ x) : tokF g (34 :: (x ++ 34 :: r)) = ⟨113, x, g⟩ :: tokF true r := by
  rw [tokF_cons, if_neg (by decide), if_neg (by decide), if_pos rfl, Sp.cut_append h]
theorem br_nil : Br [] := .inl rfl
theorem br_cons {c : UInt8} (r : By) (h : sgn c = true) : Br (c :: r) := .inr ⟨c, r, rfl, h⟩
end Qr
end Go.Proofs.YtkahplbjbidemaaGreatDoor

/- Plain: the text of a right search is read as that search. -/
namespace Go.Proofs.YtkahplbjbidemaaGreatDoor
set_option maxRecDepth 100000

namespace Qr
open Go.Lib
/-- A right search, its parts laid open. -/
inductive Rt : Qy → Prop
  | term {o f : Int} {ws : List ByteArray} (h1 : o = 1 ∨ o = 2 ∨ o = 3) (h2 : 0 ≤ f ∧ f ≤ 4) (h3 : 1 ≤ ws.length) (h5 : o ≠ 3 → ws.length = 1) (h4 : ∀ x ∈ ws, isWord x = true) : Rt (.mk o f ws 0 0 [])
  | years {a b : Int} (h1 : 1 ≤ a ∧ a ≤ 2199) (h2 : 1 ≤ b ∧ b ≤ 2199) : Rt (.mk 4 0 [] a b [])
  | kids {o : Int} {ks : List Qy} (h1 : o = 5 ∨ o = 6 ∨ o = 7) (h2 : 2 ≤ ks.length) (h4 : o = 7 → ks.length = 2) (h5 : o ≠ 7 → ∀ k ∈ ks, k.op ≠ o) (h3 : ∀ k ∈ ks, Rt k) : Rt (.mk o 0 [] 0 0 ks)
theorem treeL_all : ∀ (l : List Qy) (e : Int), treeL e l = 0 → e = 0 ∧ ∀ k ∈ l, treeE k = 0
  | [], e, h => ⟨by simpa [treeL] using h, fun k hk => by simp at hk⟩
  | k :: r, e, h => by
    by_cases he : e = 0
    · subst he
      rw [treeL, if_pos rfl] at h
      obtain ⟨h1, h2⟩ := treeL_all r _ h
      refine ⟨rfl, fun x hx => ?_⟩
      rw [List.mem_cons] at hx
      rcases hx with rfl | hx
      · exact h1
      · exact h2 x hx
    · rw [treeL_bad he] at h
      exact absurd h he
theorem rt_of : ∀ q, treeE q = 0 → Rt q := by
  refine Qy.ind ?_
  intro o f ws a b ks ih h
  rw [treeE] at h
  obtain ⟨h1, h2⟩ := treeL_all ks _ h
  have hk := fun k hk => ih k hk (h2 k hk)
  simp only [nodeE] at h1
  split at h1
  · rename_i ho
    unfold termE at h1
    repeat' split at h1
    all_goals first | (exfalso; omega) | skip
    rename_i c1 c2 _ _
    have e1 : a = 0 := by omega
    have e2 : b = 0 := by omega
    have e3 : ks = [] := List.eq_nil_of_length_eq_zero (by omega)
    subst e1 e2 e3
    have c3 : ws.all isWord = true := by simpa using c2
    exact .term ho (by omega) (by omega) (by omega) (List.all_eq_true.1 c3)
  · split at h1
    · rename_i _ ho
      subst ho
      unfold yearsE at h1
      repeat' split at h1
      all_goals first | (exfalso; omega) | skip
      have e1 : f = 0 := by omega
      have e2 : ws = [] := List.eq_nil_of_length_eq_zero (by omega)
      have e3 : ks = [] := List.eq_nil_of_length_eq_zero (by omega)
      subst e1 e2 e3
      exact .years (by omega) (by omega)
    · split at h1
      · rename_i ho
        unfold kidsE at h1
        have e1 : f = 0 ∧ a = 0 ∧ b = 0 ∧ ws.length = 0 ∧ 2 ≤ ks.length ∧ (o = 7 → ks.length = 2) ∧ (o ≠ 7 → ks.any (fun k => decide (k.op = o)) ≠ true) := by
          repeat' split at h1
          all_goals first | (exfalso; omega) | (refine ⟨by omega, by omega, by omega, by omega, by omega, by omega, ?_⟩; first | assumption | (intro h; omega) | (intro _; assumption))
        obtain ⟨rfl, rfl, rfl, e4, e5, e6, e7⟩ := e1
        have e2 : ws = [] := List.eq_nil_of_length_eq_zero e4
        subst e2
        refine .kids ho e5 e6 (fun h7 k hk2 he => e7 h7 (List.any_eq_true.2 ⟨k, hk2, by simpa using he⟩)) hk
      · exfalso; omega

/-! the text is valid -/
theorem valid_asc' {l : By} (h : ∀ b ∈ l, 32 ≤ b.toNat ∧ b.toNat < 127) : Tx.valid l = true := Tx.valid_asc l h
theorem dec_asc (n : Nat) : ∀ b ∈ decDigits n, 48 ≤ b.toNat ∧ b.toNat ≤ 57 := by
  induction n using Nat.strongRecOn with
  | ind n ih =>
    intro b hb
    by_cases h : n < 10
    · rw [Nm.digits_small h, List.mem_singleton] at hb
      rw [hb, Nm.dig_toNat h]; omega
    · rw [Nm.digits_big h] at hb
      rcases List.mem_append.1 hb with hb | hb
      · exact ih (n / 10) (by omega) b hb
      · rw [List.mem_singleton] at hb
        have := Nm.dig_toNat (n := n % 10) (by omega)
        rw [hb, this]; omega
theorem itoa_dig {a : Int} (h : 0 ≤ a) : ∀ b ∈ itoa a, 48 ≤ b.toNat ∧ b.toNat ≤ 57 := by
  obtain ⟨n, rfl⟩ := Int.eq_ofNat_of_zero_le h
  rw [Nm.itoa_nat]
  exact dec_asc n
theorem fieldT_cases {f : Int} (h : 0 ≤ f ∧ f ≤ 4) : (f = 0 ∧ fieldT f = []) ∨ ∃ n : By, fieldT f = n ++ [58] ∧ n ≠ [] ∧ (∀ b ∈ n, sgn b = false) ∧ (∀ b ∈ n, 32 ≤ b.toNat ∧ b.toNat < 127) ∧ fieldOf n = some f ∧ n ≠ [121, 101, 97, 114] ∧ anyOp ⟨114, n, false⟩ = false ∧ anyOp ⟨114, n, true⟩ = false := by
  rcases (show f = 0 ∨ f = 1 ∨ f = 2 ∨ f = 3 ∨ f = 4 by omega) with rfl | rfl | rfl | rfl | rfl
  · exact .inl ⟨rfl, rfl⟩
  · exact .inr ⟨[116, 105], by decide, by decide, by decide, by decide, by decide, by decide, by decide, by decide⟩
  · exact .inr ⟨[97, 117], by decide, by decide, by decide, by decide, by decide, by decide, by decide, by decide⟩
  · exact .inr ⟨[115, 117], by decide, by decide, by decide, by decide, by decide, by decide, by decide, by decide⟩
  · exact .inr ⟨[110, 117], by decide, by decide, by decide, by decide, by decide, by decide, by decide, by decide⟩
theorem sep_valid (o : Int) : Tx.valid (sepT o) = true := by
  unfold sepT
  repeat' split
  all_goals decide +kernel
theorem valid_word {s : ByteArray} (h : isWord s = true) : Tx.valid s.data.toList = true := (isWord_iff h).1
theorem valid_field {f : Int} (h : 0 ≤ f ∧ f ≤ 4) : Tx.valid (fieldT f) = true := by
  rcases fieldT_cases h with ⟨_, e⟩ | ⟨n, e, _, _, h2, _⟩
  · rw [e]; rfl
  · rw [e]
    exact valid_asc' fun b hb => by
      rcases List.mem_append.1 hb with hb | hb
      · exact h2 b hb
      · rw [List.mem_singleton] at hb; rw [hb]; decide
theorem bys_one {ws : List ByteArray} (h : ws.length = 1) : ∃ x, ws = [x] ∧ (bys ws).headD [] = x.data.toList := by
  match ws, h with
  | [x], _ => exact ⟨x, rfl, rfl⟩
theorem text_valid : ∀ q, Rt q → Tx.valid (text q) = true ∧ Tx.valid (parT q) = true := by
  have par : ∀ q, Tx.valid (text q) = true → Tx.valid (text q) = true ∧ Tx.valid (parT q) = true := fun q h => by
    refine ⟨h, ?_⟩
    unfold parT
    split
    · exact Rc.valid_app (Rc.valid_app (by decide +kernel) h) (by decide +kernel)
    · exact h
  refine Qy.ind ?_
  intro o f ws a b ks ih h
  apply par
  rw [text_eq]
  cases h with
  | term h1 h2 h3 h5 h4 =>
    have hf := valid_field h2
    have hj : Tx.valid (join (bys ws) [32]) = true := Rc.valid_join _ _ (fun x hx => by
      obtain ⟨y, hy, rfl⟩ := List.mem_map.1 hx
      exact valid_word (h4 y hy)) (by decide +kernel)
    have hh : Tx.valid ((bys ws).headD []) = true := by
      cases ws with
      | nil => rfl
      | cons x r => exact valid_word (h4 x (by simp))
    rcases h1 with rfl | rfl | rfl
    · rw [if_pos rfl]; exact Rc.valid_app hf hh
    · rw [if_neg (by decide), if_pos rfl]; exact Rc.valid_app hf (Rc.valid_app hh (by decide +kernel))
    · rw [if_neg (by decide), if_neg (by decide), if_pos rfl]; exact Rc.valid_app hf (Rc.valid_app (Rc.valid_app (by decide +kernel) hj) (by decide +kernel))
  | years h1 h2 =>
    rw [if_neg (by decide), if_neg (by decide), if_neg (by decide), if_pos rfl]
    exact Rc.valid_app (Rc.valid_app (Rc.valid_app (by decide +kernel) (valid_asc' fun x hx => by have := itoa_dig (show 0 ≤ a by omega) x hx; omega)) (by decide +kernel)) (valid_asc' fun x hx => by have := itoa_dig (show 0 ≤ b by omega) x hx; omega)
  | kids h1 h2 h4 h5 h3 =>
    rw [if_neg (by omega), if_neg (by omega), if_neg (by omega), if_neg (by omega)]
    exact Rc.valid_join _ _ (fun x hx => by
      obtain ⟨k, hk, rfl⟩ := List.mem_map.1 hx
      exact (ih k hk (h3 k hk)).2) (sep_valid o)
end Qr
end Go.Proofs.YtkahplbjbidemaaGreatDoor

/- Plain: the words of words put together; the text of a term or of a range of years is read as it. -/
namespace Go.Proofs.YtkahplbjbidemaaGreatDoor
set_option maxRecDepth 100000

namespace Tx
open Go.Lib
theorem foldT_app {σ : Type} (f : σ → Byt → Nat → σ) : ∀ (n : Nat) (st : σ) (a b : Byt), a.length ≤ n → valid a = true → foldT f st (a ++ b) = foldT f (foldT f st a) b
  | 0, st, a, b, hn, _ => by
    have : a = [] := List.eq_nil_of_length_eq_zero (by omega)
    subst this
    rw [foldT_nil, List.nil_append]
  | n + 1, st, a, b, hn, hv => by
    by_cases hne : a = []
    · subst hne; rw [foldT_nil, List.nil_append]
    · obtain ⟨hz, _, hw, hv2, _⟩ := valid_head hne hv
      have hr := Rc.rdec_append b hne hz
      have hwp := wid_pos a
      have hwl := wid_le hne
      have hw2 : wid (a ++ b) = wid a := by unfold wid; rw [hr]
      rw [foldT_step f st (show a ++ b ≠ [] by simp [hne]), foldT_step f st hne, hw2, hr, List.take_append_of_le_length hwl, List.drop_append_of_le_length hwl]
      exact foldT_app f n _ _ _ (by rw [List.length_drop]; omega) hv2
theorem foldS_out : ∀ (n : Nat) (out l : Byt), l.length ≤ n → foldT foldStep out l = out ++ foldT foldStep [] l
  | 0, out, l, hn => by
    have : l = [] := List.eq_nil_of_length_eq_zero (by omega)
    subst this
    rw [foldT_nil, foldT_nil, List.append_nil]
  | n + 1, out, l, hn => by
    by_cases hne : l = []
    · subst hne; rw [foldT_nil, foldT_nil, List.append_nil]
    · have hwp := wid_pos l
      have hp : 0 < l.length := List.length_pos_iff.2 hne
      have hd : (l.drop (wid l)).length ≤ n := by rw [List.length_drop]; omega
      rw [foldT_step _ out hne, foldT_step _ [] hne, foldS_out n (foldStep out _ _) _ hd, foldS_out n (foldStep [] _ _) _ hd]
      unfold foldStep
      simp only [List.nil_append, List.append_assoc]
theorem foldS_app {a b : Byt} (h : valid a = true) : foldS (a ++ b) = foldS a ++ foldS b := by
  unfold foldS
  rw [foldT_app foldStep a.length [] a b (Nat.le_refl _) h, foldS_out b.length _ b (Nat.le_refl _)]
theorem wFold_out (p : Nat → Bool) (xs : List Byt) : ∀ (n : Nat) (st : List Byt × Byt) (l : Byt), l.length ≤ n → foldT (wStep p) (xs ++ st.1, st.2) l = (xs ++ (foldT (wStep p) st l).1, (foldT (wStep p) st l).2)
  | 0, st, l, hn => by
    have : l = [] := List.eq_nil_of_length_eq_zero (by omega)
    subst this
    rw [foldT_nil, foldT_nil]
  | n + 1, st, l, hn => by
    by_cases hne : l = []
    · subst hne; rw [foldT_nil, foldT_nil]
    · have hwp := wid_pos l
      have hp : 0 < l.length := List.length_pos_iff.2 hne
      have hd : (l.drop (wid l)).length ≤ n := by rw [List.length_drop]; omega
      have hs : wStep p (xs ++ st.1, st.2) (l.take (wid l)) (rdec l).1 = (xs ++ (wStep p st (l.take (wid l)) (rdec l).1).1, (wStep p st (l.take (wid l)) (rdec l).1).2) := by
        unfold wStep
        simp only
        split
        · split
          · rfl
          · simp only [List.append_assoc]
        · rfl
      rw [foldT_step _ _ hne, foldT_step _ st hne, hs, wFold_out p xs n _ _ hd]
theorem fieldsT_app (p : Nat → Bool) {a b : Byt} (h : valid a = true) (hp : p 32 = true) : fieldsT p (a ++ 32 :: b) = fieldsT p a ++ fieldsT p b := by
  unfold fieldsT
  rw [foldT_app (wStep p) a.length _ a (32 :: b) (Nat.le_refl _) h, foldT_step _ _ (show (32 :: b : Byt) ≠ [] by simp)]
  have hr : rdec (32 :: b) = (32, 1) := rdec_asc b (by decide)
  have hw : wid (32 :: b) = 1 := by unfold wid; rw [hr]; rfl
  rw [hw, hr]
  have hd : List.drop 1 (32 :: b) = b := rfl
  rw [hd]
  have hs : ∀ st : List Byt × Byt, wStep p st (List.take 1 (32 :: b)) 32 = (wEnd st ++ [], []) := by
    intro ⟨x, y⟩
    unfold wStep wEnd
    rw [if_pos hp]
    cases y with
    | nil => simp
    | cons c d => simp
  show wEnd (foldT (wStep p) (wStep p (foldT (wStep p) ([], []) a) (List.take 1 (32 :: b)) 32) b) = _
  rw [hs, wFold_out p _ b.length ([], []) b (Nat.le_refl _)]
  unfold wEnd
  simp only
  split <;> simp
theorem foldS_32 (b : Byt) : foldS (32 :: b) = 32 :: foldS b := by
  have h := foldS_app (a := [32]) (b := b) (by decide +kernel)
  rw [List.singleton_append] at h
  rw [h, show foldS [32] = [32] by decide +kernel]
  rfl
theorem words_app {a b : Byt} (h : valid a = true) : words (a ++ 32 :: b) = words a ++ words b := by
  unfold words
  rw [foldS_app h, foldS_32, fieldsT_app sepW (foldS_valid h) (by decide)]
theorem words_join : ∀ (l : List Byt), l ≠ [] → (∀ x ∈ l, valid x = true ∧ words x = [x]) → words (join l [32]) = l
  | [], h, _ => absurd rfl h
  | [x], _, h => by rw [join_one]; exact (h x (by simp)).2
  | x :: y :: r, _, h => by
    have e : join (x :: y :: r) [32] = x ++ 32 :: join (y :: r) [32] := by
      rw [join_cons, join_cons]
      unfold joinTail
      simp
    rw [e, words_app (h x (by simp)).1, (h x (by simp)).2, words_join (y :: r) (by simp) (fun z hz => h z (by simp [hz]))]
    rfl
end Tx

namespace Qr
open Go.Lib
/-- The tokens of a text, whatever follows. -/
def TokOf (t : By) (g : Bool) (L : List Tok) : Prop := ∀ rest, Br rest → tokF g (t ++ rest) = L ++ tokF true rest
/-- What may follow a primary. -/
def NS (r : List Tok) : Prop := (lk r).k ≠ 58 ∧ (lk r).k ≠ 42
theorem NS.nog {r : List Tok} (h : NS r) (t : Tok) {c : UInt8} (hc : c = 58 ∨ c = 42) : glue c (t :: r) = false := by
  unfold glue lk1
  show ((t.k == 114) && ((lk r).k == c) && (lk r).g) = false
  have : ((lk r).k == c) = false := by
    rw [beq_eq_false_iff_ne]
    rcases hc with rfl | rfl
    · exact h.1
    · exact h.2
  rw [this]
  simp
theorem glue_yes (w : By) (g : Bool) (c : UInt8) (r : List Tok) : glue c (⟨114, w, g⟩ :: ⟨c, [], true⟩ :: r) = true := by
  unfold glue lk1 lk
  simp
theorem ok_op {w : By} (h : ∀ b ∈ w, Tx.okB b) (g : Bool) : anyOp ⟨114, w, g⟩ = false := by
  have e : ∀ (c : UInt8) (v : By), c.toNat < 128 → ¬ (97 ≤ c.toNat ∧ c.toNat ≤ 122) → ¬ (48 ≤ c.toNat ∧ c.toNat ≤ 57) → (w == c :: v) = false := fun c v h1 h2 h3 => by
    rw [beq_eq_false_iff_ne]
    rintro rfl
    have := h c (by simp)
    unfold Tx.okB at this
    omega
  unfold anyOp orB andB notB
  simp only
  rw [e _ _ (by decide) (by decide) (by decide), e _ _ (by decide) (by decide) (by decide), e _ _ (by decide) (by decide) (by decide)]
  rfl
theorem word0_run {w : By} {g : Bool} {r : List Tok} (h : anyOp ⟨114, w, g⟩ = false) : word0 (⟨114, w, g⟩ :: r) = true := by
  unfold word0
  show (((114 : UInt8) == 113) || (((114 : UInt8) == 114) && !anyOp ⟨114, w, g⟩)) = true
  rw [h]; rfl
theorem word0_quo (w : By) (g : Bool) (r : List Tok) : word0 (⟨113, w, g⟩ :: r) = true := rfl
theorem wordsB_one {x : ByteArray} (h : isWord x = true) : wordsB x.data.toList = [x] := by
  unfold wordsB
  rw [(isWord_iff h).2.1]
  rfl
theorem pTerm_cons (f : Int) (t : Tok) (r : List Tok) : pTerm true f (t :: r) =
    if word0 (t :: r) = false then none
    else if glue 58 (t :: r) = true then none
    else if Tx.words t.t = [] then none
    else if glue 42 (t :: r) = true then (if 1 < (Tx.words t.t).length then none else some (.mk 2 f (wordsB t.t) 0 0 [], r.tail))
    else if t.k = 114 ∧ (Tx.words t.t).length = 1 then some (.mk 1 f (wordsB t.t) 0 0 [], r)
    else some (.mk 3 f (wordsB t.t) 0 0 [], r) := by unfold pTerm; rfl
theorem pTerm_1 {x : ByteArray} (h : isWord x = true) (f : Int) (g : Bool) {r : List Tok} (hr : NS r) : pTerm true f (⟨114, x.data.toList, g⟩ :: r) = some (.mk 1 f [x] 0 0 [], r) := by
  obtain ⟨_, h2, _, h4⟩ := isWord_iff h
  rw [pTerm_cons, if_neg (by rw [word0_run (ok_op h4 g)]; simp), if_neg (by rw [hr.nog _ (.inl rfl)]; simp), if_neg (show ¬ Tx.words x.data.toList = [] by rw [h2]; simp), if_neg (by rw [hr.nog _ (.inr rfl)]; simp), if_pos (show (114 : UInt8) = 114 ∧ (Tx.words x.data.toList).length = 1 from ⟨rfl, by rw [h2]; rfl⟩)]
  show some (Qy.mk 1 f (wordsB x.data.toList) 0 0 [], r) = _
  rw [wordsB_one h]
theorem pTerm_2 {x : ByteArray} (h : isWord x = true) (f : Int) (g : Bool) (r : List Tok) : pTerm true f (⟨114, x.data.toList, g⟩ :: ⟨42, [], true⟩ :: r) = some (.mk 2 f [x] 0 0 [], r) := by
  obtain ⟨_, h2, _, h4⟩ := isWord_iff h
  rw [pTerm_cons, if_neg (by rw [word0_run (ok_op h4 g)]; simp), if_neg (show ¬ glue 58 (⟨114, x.data.toList, g⟩ :: ⟨42, [], true⟩ :: r) = true by unfold glue lk1 lk; simp), if_neg (show ¬ Tx.words x.data.toList = [] by rw [h2]; simp), if_pos (glue_yes _ _ _ _), if_neg (show ¬ 1 < (Tx.words x.data.toList).length by rw [h2]; simp)]
  show some (Qy.mk 2 f (wordsB x.data.toList) 0 0 [], r) = _
  rw [wordsB_one h]
theorem pTerm_3 {ws : List ByteArray} (h : ∀ x ∈ ws, isWord x = true) (hne : ws ≠ []) (f : Int) (g : Bool) (r : List Tok) : pTerm true f (⟨113, join (bys ws) [32], g⟩ :: r) = some (.mk 3 f ws 0 0 [], r) := by
  have h2 : Tx.words (join (bys ws) [32]) = bys ws := Tx.words_join _ (by simpa [bys] using hne) (fun x hx => by
    obtain ⟨y, hy, rfl⟩ := List.mem_map.1 hx
    exact ⟨(isWord_iff (h y hy)).1, (isWord_iff (h y hy)).2.1⟩)
  have h3 : wordsB (join (bys ws) [32]) = ws := by
    unfold wordsB
    rw [h2]
    unfold bys
    rw [List.map_map]
    conv => rhs; rw [← List.map_id ws]
    rfl
  rw [pTerm_cons, if_neg (by rw [word0_quo]; simp), if_neg (show ¬ glue 58 (⟨113, join (bys ws) [32], g⟩ :: r) = true by unfold glue; simp [lk]), if_neg (show ¬ Tx.words (join (bys ws) [32]) = [] by rw [h2]; simpa [bys] using hne), if_neg (show ¬ glue 42 (⟨113, join (bys ws) [32], g⟩ :: r) = true by unfold glue; simp [lk]), if_neg (show ¬ ((113 : UInt8) = 114 ∧ _) from fun h => absurd h.1 (by decide))]
  show some (Qy.mk 3 f (wordsB (join (bys ws) [32])) 0 0 [], r) = _
  rw [h3]

theorem pFlat_field {n : By} {g : Bool} (ha : anyOp ⟨114, n, g⟩ = false) (l : List Tok) : pFlat true (⟨114, n, g⟩ :: ⟨58, [], true⟩ :: l) =
    if (lk l).g = false then none else if word0 l = false then none else if n = [121, 101, 97, 114] then pYears true l else match fieldOf n with
      | none => none
      | some f => pTerm true f l := by
  unfold pFlat
  rw [if_neg (by rw [word0_run ha]; simp), if_pos (glue_yes _ _ _ _)]
  rfl
/-- A primary of its own: its tokens and how they are read. -/
def Flat (q : Qy) : Prop := ∀ g, ∃ L, TokOf (text q) g L ∧ (∀ r, (lk (L ++ r)).k ≠ 40) ∧ (∀ r, NS r → pFlat true (L ++ r) = some (q, r))
/-- A term without its field: read at any field. -/
theorem flat_field {f : Int} (hf : 0 ≤ f ∧ f ≤ 4) {t : By} {q : Int → Qy} (hq : text (q f) = fieldT f ++ t) (h : ∀ g, ∃ L, TokOf t g L ∧ (∀ r, (lk (L ++ r)).k ≠ 40 ∧ word0 (L ++ r) = true ∧ (lk (L ++ r)).g = g) ∧ (∀ r, NS r → glue 58 (L ++ r) = false) ∧ (∀ r, NS r → pTerm true f (L ++ r) = some (q f, r))) : Flat (q f) := by
  intro g
  rw [hq]
  rcases fieldT_cases hf with ⟨rfl, e⟩ | ⟨n, e, hn, hs, _, ho, hy, a1, a2⟩
  · obtain ⟨L, h1, h2, h3, h4⟩ := h g
    refine ⟨L, by rw [e]; exact h1, fun r => (h2 r).1, fun r hr => ?_⟩
    unfold pFlat
    rw [if_neg (by rw [(h2 r).2.1]; simp), if_neg (by rw [h3 r hr]; simp)]
    exact h4 r hr
  · obtain ⟨L, h1, h2, h3, h4⟩ := h true
    refine ⟨⟨114, n, g⟩ :: ⟨58, [], true⟩ :: L, fun rest hrest => ?_, fun r => by simp [lk], fun r hr => ?_⟩
    · rw [e, List.append_assoc, List.append_assoc, List.singleton_append, tokF_runW g hn hs (br_cons _ (by decide)), tokF_sig true _ (by simp), h1 rest hrest]
      rfl
    · have ha : anyOp ⟨114, n, g⟩ = false := by cases g <;> assumption
      rw [List.cons_append, List.cons_append, pFlat_field ha, if_neg (by rw [(h2 r).2.2]; simp), if_neg (by rw [(h2 r).2.1]; simp), if_neg hy, ho]
      exact h4 r hr
theorem flat_1 {f : Int} (hf : 0 ≤ f ∧ f ≤ 4) {x : ByteArray} (h : isWord x = true) : Flat (.mk 1 f [x] 0 0 []) := by
  obtain ⟨_, _, h3, h4⟩ := isWord_iff h
  refine flat_field hf (t := x.data.toList) (q := fun f => .mk 1 f [x] 0 0 []) (by rw [text_eq, if_pos rfl]; rfl) fun g => ⟨[⟨114, x.data.toList, g⟩], fun rest hrest => ?_, fun r => ⟨by simp [lk], word0_run (ok_op h4 g), rfl⟩, fun r hr => hr.nog _ (.inl rfl), fun r hr => pTerm_1 h f g hr⟩
  rw [tokF_runW g h3 (fun b hb => ok_sgn (h4 b hb)) hrest]
  rfl
theorem flat_2 {f : Int} (hf : 0 ≤ f ∧ f ≤ 4) {x : ByteArray} (h : isWord x = true) : Flat (.mk 2 f [x] 0 0 []) := by
  obtain ⟨_, _, h3, h4⟩ := isWord_iff h
  refine flat_field hf (t := x.data.toList ++ [42]) (q := fun f => .mk 2 f [x] 0 0 []) (by rw [text_eq, if_neg (by decide), if_pos rfl]; rfl) fun g => ⟨[⟨114, x.data.toList, g⟩, ⟨42, [], true⟩], fun rest hrest => ?_, fun r => ⟨by simp [lk], word0_run (ok_op h4 g), rfl⟩, fun r hr => by unfold glue; simp [lk, lk1], fun r hr => pTerm_2 h f g r⟩
  rw [List.append_assoc, List.singleton_append, tokF_runW g h3 (fun b hb => ok_sgn (h4 b hb)) (br_cons _ (by decide)), tokF_sig true _ (by simp)]
  rfl
theorem no_quote {ws : List ByteArray} (h : ∀ x ∈ ws, isWord x = true) : (34 : UInt8) ∉ join (bys ws) [32] := by
  have h1 : ∀ x ∈ ws, (34 : UInt8) ∉ x.data.toList := fun x hx hm => by
    have := (isWord_iff (h x hx)).2.2.2 _ hm
    unfold Tx.okB at this
    revert this
    decide
  cases ws with
  | nil => simp [bys, join_nil]
  | cons x r =>
    unfold bys
    rw [List.map_cons, join_cons, List.mem_append]
    rintro (h2 | h2)
    · exact h1 x (by simp) h2
    · unfold joinTail at h2
      rw [List.mem_flatten] at h2
      obtain ⟨l, hl, h3⟩ := h2
      rw [List.map_map] at hl
      obtain ⟨y, hy, rfl⟩ := List.mem_map.1 hl
      simp only [Function.comp, List.singleton_append, List.mem_cons] at h3
      rcases h3 with h3 | h3
      · exact absurd h3 (by decide)
      · exact h1 y (by simp [hy]) h3
theorem flat_3 {f : Int} (hf : 0 ≤ f ∧ f ≤ 4) {ws : List ByteArray} (hn : 1 ≤ ws.length) (h : ∀ x ∈ ws, isWord x = true) : Flat (.mk 3 f ws 0 0 []) := by
  have hne : ws ≠ [] := by intro h0; rw [h0] at hn; simp at hn
  refine flat_field hf (t := [34] ++ join (bys ws) [32] ++ [34]) (q := fun f => .mk 3 f ws 0 0 []) (by rw [text_eq, if_neg (by decide), if_neg (by decide), if_pos rfl]) fun g => ⟨[⟨113, join (bys ws) [32], g⟩], fun rest hrest => ?_, fun r => ⟨by simp [lk], word0_quo _ _ _, rfl⟩, fun r hr => by unfold glue; simp [lk], fun r hr => pTerm_3 h hne f g r⟩
  have e : [34] ++ join (bys ws) [32] ++ [34] ++ rest = 34 :: (join (bys ws) [32] ++ 34 :: rest) := by simp
  rw [e, tokF_quo g _ (no_quote h)]
  rfl
theorem yearN_itoa {a : Int} (h : 1 ≤ a ∧ a ≤ 2199) : yearN (itoa a) = some a.toNat := by
  obtain ⟨n, rfl⟩ := Int.eq_ofNat_of_zero_le (show 0 ≤ a by omega)
  rw [Nm.itoa_nat]
  have hl := Nm.digits_len 3 n (by omega)
  unfold yearN
  rw [if_neg (by omega), Nm.num_digits n (by omega)]
  rfl
theorem flat_4 {a b : Int} (h1 : 1 ≤ a ∧ a ≤ 2199) (h2 : 1 ≤ b ∧ b ≤ 2199) : Flat (.mk 4 0 [] a b []) := by
  have da := itoa_dig (show 0 ≤ a by omega)
  have db := itoa_dig (show 0 ≤ b by omega)
  have hall : ∀ x ∈ itoa a ++ 45 :: itoa b, sgn x = false := by
    intro x hx
    have : (48 ≤ x.toNat ∧ x.toNat ≤ 57) ∨ x = 45 := by
      rcases List.mem_append.1 hx with hx | hx
      · exact .inl (da x hx)
      · rw [List.mem_cons] at hx
        rcases hx with rfl | hx
        · exact .inr rfl
        · exact .inl (db x hx)
    rcases this with h | rfl
    · exact ok_sgn (.inr (.inr h))
    · decide
  have hna : itoa a ≠ [] := by
    obtain ⟨n, rfl⟩ := Int.eq_ofNat_of_zero_le (show 0 ≤ a by omega)
    rw [Nm.itoa_nat]
    exact Nm.digits_ne n
  have hne : itoa a ++ 45 :: itoa b ≠ [] := by simp
  have hcut : Sp.cut 45 (itoa a ++ 45 :: itoa b) = some (itoa a, itoa b) := Sp.cut_append fun hm => by
    have := da _ hm
    revert this
    decide
  have hop : anyOp ⟨114, itoa a ++ 45 :: itoa b, true⟩ = false := by
    cases hi : itoa a with
    | nil => exact absurd hi hna
    | cons c v =>
      have hc := da c (by rw [hi]; simp)
      have e : ∀ (d : UInt8) (u : By), 65 ≤ d.toNat → (c :: v ++ 45 :: itoa b == d :: u) = false := fun d u hd => by
        rw [beq_eq_false_iff_ne]
        intro h9
        rw [List.cons_append] at h9
        injection h9 with h9 _
        subst h9
        omega
      unfold anyOp orB andB notB
      simp only
      rw [e _ _ (by decide), e _ _ (by decide), e _ _ (by decide)]
      rfl
  intro g
  have hy : anyOp ⟨114, [121, 101, 97, 114], g⟩ = false := by cases g <;> decide
  refine ⟨[⟨114, [121, 101, 97, 114], g⟩, ⟨58, [], true⟩, ⟨114, itoa a ++ 45 :: itoa b, true⟩], fun rest hrest => ?_, fun r => by simp [lk], fun r hr => ?_⟩
  · rw [text_eq, if_neg (by decide), if_neg (by decide), if_neg (by decide), if_pos rfl]
    have e : [121, 101, 97, 114, 58] ++ itoa a ++ [45] ++ itoa b ++ rest = [121, 101, 97, 114] ++ 58 :: ((itoa a ++ 45 :: itoa b) ++ rest) := by simp
    rw [e, tokF_runW g (by decide) (by decide) (br_cons _ (by decide)), tokF_sig true _ (by simp), tokF_runW true hne hall hrest]
    rfl
  · rw [List.cons_append, List.cons_append, List.cons_append, List.nil_append, pFlat_field hy, if_neg (show ¬ (lk (⟨114, itoa a ++ 45 :: itoa b, true⟩ :: r)).g = false by simp [lk]), if_neg (by rw [word0_run hop]; simp), if_pos rfl]
    have hny : ((lk r).k == 58) = false := by rw [beq_eq_false_iff_ne]; exact hr.1
    have hyr : pYears true (⟨114, itoa a ++ 45 :: itoa b, true⟩ :: r) = if (true && (lk r).k == 58 && (lk r).g) = true then none
      else match Sp.cut 45 (itoa a ++ 45 :: itoa b) with
      | none => none
      | some (x, y) => match yearN x, yearN y with
        | some m, some n => some (Qy.mk 4 0 [] m n [], r)
        | _, _ => none := rfl
    rw [hyr, if_neg (by rw [hny]; simp)]
    rw [hcut]
    simp only
    rw [yearN_itoa h1, yearN_itoa h2]
    simp only
    rw [Int.toNat_of_nonneg (by omega), Int.toNat_of_nonneg (by omega)]
end Qr
end Go.Proofs.YtkahplbjbidemaaGreatDoor

/- Plain: Parse of the text of a right search is that search. -/
namespace Go.Proofs.YtkahplbjbidemaaGreatDoor
set_option maxRecDepth 100000

namespace Qr
open Go.Lib
/-- What may follow a whole search. -/
structure End (r : List Tok) : Prop where
  ns : NS r
  no : isOp notB r = false
  an : isOp andB r = false
  oo : isOp orB r = false
  be : begins r = false
theorem End.nil : End [] := ⟨⟨by decide, by decide⟩, by decide, by decide, by decide, by decide⟩
theorem End.close (g : Bool) (r : List Tok) : End (⟨41, [], g⟩ :: r) := by
  refine ⟨⟨?_, ?_⟩, ?_, ?_, ?_, ?_⟩ <;> first | (show (41 : UInt8) ≠ _; decide) | rfl
/-- A part: its tokens and how they are read. -/
def Prt (k : Qy) : Prop := ∀ g, ∃ L, TokOf (parT k) g L ∧ 1 ≤ L.length ∧ (∀ r n, NS r → 5 * L.length ≤ n → pPrim true n (L ++ r) = some (k, r))
def Whole (q : Qy) : Prop := ∀ g, ∃ L, TokOf (text q) g L ∧ 1 ≤ L.length ∧ (∀ r n, End r → 5 * L.length + 3 ≤ n → pOr true n (L ++ r) = some (q, r))

theorem joined_1q (o : Int) (q : Qy) : joined o [q] = q := rfl
theorem pNot_1 {n : Nat} {l R : List Tok} {k : Qy} (h : pPrim true n l = some (k, R)) (hR : isOp notB R = false) : pNot true (n + 1) l = some (k, R) := by
  rw [pNot, h]
  simp only
  rw [if_neg (by rw [hR]; simp)]
theorem lAnd_1 {n : Nat} {R : List Tok} {acc : List Qy} (h1 : isOp andB R = false) (h2 : begins R = false) : lAnd true (n + 1) acc R = some (joined 5 acc, R) := by
  rw [lAnd, if_neg (by rw [h1]; simp), if_neg (by rw [h2]; simp)]
theorem pAnd_1 {n : Nat} {l R : List Tok} {k : Qy} (h : pPrim true n l = some (k, R)) (hR : isOp notB R = false) (h1 : isOp andB R = false) (h2 : begins R = false) : pAnd true (n + 2) l = some (k, R) := by
  rw [pAnd, pNot_1 h hR]
  simp only
  rw [lAnd_1 h1 h2]
  rfl
theorem lOr_1 {n : Nat} {R : List Tok} {acc : List Qy} (h1 : isOp orB R = false) : lOr true (n + 1) acc R = some (joined 6 acc, R) := by
  rw [lOr, if_neg (by rw [h1]; simp)]
theorem flat_prim {n : Nat} {l : List Tok} (h : (lk l).k ≠ 40) : pPrim true (n + 1) l = pFlat true l := by rw [pPrim, if_neg h]
theorem flat_ne {q : Qy} {L : List Tok} (h2 : ∀ r, NS r → pFlat true (L ++ r) = some (q, r)) : 1 ≤ L.length := by
  cases L with
  | nil =>
    have h := h2 [] End.nil.ns
    have : pFlat true [] = none := by decide +kernel
    rw [List.nil_append, this] at h
    cases h
  | cons a b => simp
theorem prt_flat {q : Qy} (ho : q.op < 5) (h : Flat q) : Prt q := by
  intro g
  obtain ⟨L, h1, h2, h3⟩ := h g
  have hl := flat_ne h3
  refine ⟨L, by unfold parT; rw [if_neg (by omega)]; exact h1, hl, fun r n hr hn => ?_⟩
  obtain ⟨m, rfl⟩ : ∃ m, n = m + 1 := ⟨n - 1, by omega⟩
  rw [flat_prim (h2 r)]
  exact h3 r hr
theorem whole_flat {q : Qy} (h : Flat q) : Whole q := by
  intro g
  obtain ⟨L, h1, h2, h3⟩ := h g
  have hl := flat_ne h3
  refine ⟨L, h1, hl, fun r n hr hn => ?_⟩
  obtain ⟨m, rfl⟩ : ∃ m, n = m + 1 + 2 + 1 := ⟨n - 4, by omega⟩
  rw [pOr, pAnd_1 (by rw [flat_prim (h2 r)]; exact h3 r hr.ns) hr.no hr.an hr.be]
  simp only
  rw [show m + 1 + 2 = (m + 2) + 1 by omega, lOr_1 hr.oo]
  rfl
theorem prt_whole {q : Qy} (ho : 5 ≤ q.op) (h : Whole q) : Prt q := by
  intro g
  obtain ⟨L, h1, h2, h3⟩ := h true
  refine ⟨⟨40, [], g⟩ :: (L ++ [⟨41, [], true⟩]), fun rest hrest => ?_, by simp, fun r n hr hn => ?_⟩
  · unfold parT
    rw [if_pos ho]
    have e : [40] ++ text q ++ [41] ++ rest = 40 :: (text q ++ 41 :: rest) := by simp
    rw [e, tokF_sig g _ (by simp), h1 _ (br_cons _ rfl), tokF_sig true _ (by simp)]
    simp
  · simp only [List.length_cons, List.length_append, List.length_nil] at hn
    obtain ⟨m, rfl⟩ : ∃ m, n = m + 1 := ⟨n - 1, by omega⟩
    have e : ⟨40, [], g⟩ :: (L ++ [⟨41, [], true⟩]) ++ r = ⟨40, [], g⟩ :: (L ++ ⟨41, [], true⟩ :: r) := by simp
    rw [e, pPrim, if_pos (show (lk (⟨40, [], g⟩ :: (L ++ ⟨41, [], true⟩ :: r))).k = 40 from rfl)]
    show (match pOr true m (L ++ ⟨41, [], true⟩ :: r) with
      | none => none
      | some (q, r') => if (lk r').k = 41 then some (q, r'.tail) else none) = _
    rw [h3 _ m (End.close true r) (by omega)]
    rfl
/-- Tokens that begin with an operator. -/
def OpHead (s : By) (L : List Tok) : Prop := ∀ r, lk (L ++ r) = ⟨114, s, false⟩
theorem tok_sep {s : By} (hs : s ≠ []) (hc : ∀ b ∈ s, sgn b = false) (g : Bool) (r : By) : tokF g ([32] ++ s ++ [32] ++ r) = ⟨114, s, false⟩ :: tokF false r := by
  have e : [32] ++ s ++ [32] ++ r = 32 :: (s ++ 32 :: r) := by simp
  rw [e, tokF_sp, tokF_runW false hs hc (br_cons _ rfl), tokF_sp]
/-- The parts behind the first one. -/
theorem tail_toks {s : By} (hs : s ≠ []) (hc : ∀ b ∈ s, sgn b = false) (P : Nat → List Qy → List Tok → List Qy → List Tok → Prop)
    (h0 : ∀ n acc r, End r → 1 ≤ n → P n acc r acc r)
    (h1 : ∀ n m acc k L R ks r, (NS R → ∀ f, m ≤ f → pPrim true f (L ++ R) = some (k, R)) → (End R ∨ ∃ t, R = ⟨114, s, false⟩ :: t) → n = m + 3 → P (n - 1) (acc ++ [k]) R ks r → P n acc (⟨114, s, false⟩ :: (L ++ R)) ks r) :
    ∀ ks : List Qy, (∀ k ∈ ks, Prt k) → ∃ L, TokOf (joinTail ([32] ++ s ++ [32]) (ks.map parT)) true L ∧ (ks = [] → L = []) ∧ (ks ≠ [] → ∃ t, L = ⟨114, s, false⟩ :: t) ∧ ∀ r acc n, End r → 5 * L.length + 1 ≤ n → P n acc (L ++ r) (acc ++ ks) r
  | [], _ => ⟨[], fun rest _ => by simp [joinTail], fun _ => rfl, fun h => absurd rfl h, fun r acc n hr hn => by rw [List.append_nil, List.nil_append]; exact h0 n acc r hr (by omega)⟩
  | k :: ks, h => by
    obtain ⟨L2, a1, a2, a3, a4⟩ := tail_toks hs hc P h0 h1 ks fun x hx => h x (by simp [hx])
    obtain ⟨L, b1, b2, b3⟩ := h k (by simp) false
    refine ⟨⟨114, s, false⟩ :: (L ++ L2), fun rest hrest => ?_, fun h => by simp at h, fun _ => ⟨_, rfl⟩, fun r acc n hr hn => ?_⟩
    · have e : joinTail ([32] ++ s ++ [32]) ((k :: ks).map parT) ++ rest = [32] ++ s ++ [32] ++ (parT k ++ (joinTail ([32] ++ s ++ [32]) (ks.map parT) ++ rest)) := by
        simp [joinTail]
      have hbr : Br (joinTail ([32] ++ s ++ [32]) (ks.map parT) ++ rest) := by
        cases ks with
        | nil => simpa [joinTail] using hrest
        | cons x y => exact .inr ⟨32, _, by simp only [joinTail, List.map_cons, List.flatten_cons, List.append_assoc, List.cons_append]; rfl, rfl⟩
      rw [e, tok_sep hs hc, b1 _ hbr, a1 rest hrest]
      simp
    · simp only [List.length_cons, List.length_append] at hn
      have e : ⟨114, s, false⟩ :: (L ++ L2) ++ r = ⟨114, s, false⟩ :: (L ++ (L2 ++ r)) := by simp
      rw [e]
      refine h1 n (n - 3) acc k L (L2 ++ r) (acc ++ k :: ks) r (fun hR f hf => b3 _ _ hR (by omega)) ?_ (by omega) ?_
      · by_cases hk : ks = []
        · rw [a2 hk]; exact .inl hr
        · obtain ⟨t, ht⟩ := a3 hk
          rw [ht]
          exact .inr ⟨_, rfl⟩
      · have := a4 r (acc ++ [k]) (n - 1) hr (by omega)
        rwa [List.append_assoc, List.singleton_append] at this
theorem head_facts {s : By} {R : List Tok} (h : End R ∨ ∃ t, R = ⟨114, s, false⟩ :: t) (ho : s = orB ∨ s = andB ∨ s = notB) : NS R ∧ (s ≠ notB → isOp notB R = false) ∧ (s ≠ andB → isOp andB R = false) ∧ begins R = false := by
  rcases h with h | ⟨t, rfl⟩
  · exact ⟨h.ns, fun _ => h.no, fun _ => h.an, h.be⟩
  · refine ⟨⟨by show (114 : UInt8) ≠ 58; decide, by show (114 : UInt8) ≠ 42; decide⟩, fun hn => ?_, fun hn => ?_, ?_⟩
    · show ((114 : UInt8) == 114 && s == notB) = false
      simpa using hn
    · show ((114 : UInt8) == 114 && s == andB) = false
      simpa using hn
    · show ((114 : UInt8) == 40 || ((114 : UInt8) == 113 || ((114 : UInt8) == 114 && !((114 : UInt8) == 114 && (s == orB || s == andB || s == notB))))) = false
      rcases ho with rfl | rfl | rfl <;> decide
theorem and_tail (ks : List Qy) (h : ∀ k ∈ ks, Prt k) : ∃ L, TokOf (joinTail ([32] ++ andB ++ [32]) (ks.map parT)) true L ∧ (ks = [] → L = []) ∧ (ks ≠ [] → ∃ t, L = ⟨114, andB, false⟩ :: t) ∧ ∀ r acc n, End r → 5 * L.length + 1 ≤ n → lAnd true n acc (L ++ r) = some (joined 5 (acc ++ ks), r) := tail_toks (s := andB) (by decide) (by decide) (fun n acc l ks r => lAnd true n acc l = some (joined 5 ks, r))
  (fun n acc r hr hn => by
    obtain ⟨m, rfl⟩ : ∃ m, n = m + 1 := ⟨n - 1, by omega⟩
    exact lAnd_1 hr.an hr.be)
  (fun n m acc k L R ks r hp hR hn hrec => by
    obtain ⟨f1, f2, _, _⟩ := head_facts hR (by simp)
    subst hn
    rw [show m + 3 - 1 = m + 2 by omega] at hrec
    have hi : isOp andB (⟨114, andB, false⟩ :: (L ++ R)) = true := by
      show ((114 : UInt8) == 114 && andB == andB) = true
      decide
    rw [lAnd, if_pos hi]
    show (match pNot true (m + 2) (L ++ R) with
      | none => none
      | some (q, r') => lAnd true (m + 2) (acc ++ [q]) r') = _
    rw [pNot_1 (hp f1 (m + 1) (by omega)) (f2 (by decide))]
    exact hrec) ks h
theorem or_tail (ks : List Qy) (h : ∀ k ∈ ks, Prt k) : ∃ L, TokOf (joinTail ([32] ++ orB ++ [32]) (ks.map parT)) true L ∧ (ks = [] → L = []) ∧ (ks ≠ [] → ∃ t, L = ⟨114, orB, false⟩ :: t) ∧ ∀ r acc n, End r → 5 * L.length + 1 ≤ n → lOr true n acc (L ++ r) = some (joined 6 (acc ++ ks), r) := tail_toks (s := orB) (by decide) (by decide) (fun n acc l ks r => lOr true n acc l = some (joined 6 ks, r))
  (fun n acc r hr hn => by
    obtain ⟨m, rfl⟩ : ∃ m, n = m + 1 := ⟨n - 1, by omega⟩
    exact lOr_1 hr.oo)
  (fun n m acc k L R ks r hp hR hn hrec => by
    obtain ⟨f1, f2, f3, f4⟩ := head_facts hR (by simp)
    subst hn
    rw [show m + 3 - 1 = m + 2 by omega] at hrec
    have hi : isOp orB (⟨114, orB, false⟩ :: (L ++ R)) = true := by
      show ((114 : UInt8) == 114 && orB == orB) = true
      decide
    rw [lOr, if_pos hi]
    show (match pAnd true (m + 2) (L ++ R) with
      | none => none
      | some (q, r') => lOr true (m + 2) (acc ++ [q]) r') = _
    rw [pAnd_1 (hp f1 m (by omega)) (f2 (by decide)) (f3 (by decide)) f4]
    exact hrec) ks h
theorem joined_manyW {o : Int} {ks : List Qy} (h : 2 ≤ ks.length) (ho : ∀ k ∈ ks, k.op ≠ o) : joined o ks = .mk o 0 [] 0 0 ks := by
  have e : ks.flatMap (fun k => if k.op = o then k.ks else [k]) = ks := by
    clear h
    induction ks with
    | nil => rfl
    | cons k r ih => rw [List.flatMap_cons, if_neg (ho k (by simp)), ih fun x hx => ho x (by simp [hx])]; rfl
  match ks, h, e with
  | a :: b :: r, _, e =>
    show Qy.mk o 0 [] 0 0 ((a :: b :: r).flatMap fun k => if k.op = o then k.ks else [k]) = _
    rw [e]
theorem br_tail {s : By} (ks : List Qy) {rest : By} (h : Br rest) : Br (joinTail ([32] ++ s ++ [32]) (ks.map parT) ++ rest) := by
  cases ks with
  | nil => simpa [joinTail] using h
  | cons x y => exact .inr ⟨32, _, by simp only [joinTail, List.map_cons, List.flatten_cons, List.append_assoc, List.cons_append]; rfl, rfl⟩
theorem text_k {o a b : Int} {ws : List ByteArray} {f : Int} {ks : List Qy} (h : o = 5 ∨ o = 6 ∨ o = 7) : text (.mk o f ws a b ks) = join (ks.map parT) (sepT o) := by
  rw [text_eq, if_neg (by omega), if_neg (by omega), if_neg (by omega), if_neg (by omega)]
theorem whole_and {ks : List Qy} (hl : 2 ≤ ks.length) (h : ∀ k ∈ ks, Prt k) (ho : ∀ k ∈ ks, k.op ≠ 5) : Whole (.mk 5 0 [] 0 0 ks) := by
  intro g
  match ks, hl, h, ho with
  | k :: k2 :: ks, hl, h, ho =>
    obtain ⟨L2, a1, _, a3, a4⟩ := and_tail (k2 :: ks) fun x hx => h x (by simp only [List.mem_cons] at hx ⊢; exact .inr hx)
    obtain ⟨L, b1, b2, b3⟩ := h k (by simp) g
    obtain ⟨t, ht⟩ := a3 (by simp)
    refine ⟨L ++ L2, fun rest hrest => ?_, by rw [List.length_append]; omega, fun r n hr hn => ?_⟩
    · rw [text_k (by simp), List.map_cons, join_cons, List.append_assoc]
      show tokF g (parT k ++ (joinTail ([32] ++ andB ++ [32]) ((k2 :: ks).map parT) ++ rest)) = _
      rw [b1 _ (br_tail _ hrest), a1 rest hrest, List.append_assoc]
    · rw [List.length_append] at hn
      obtain ⟨m, rfl⟩ : ∃ m, n = m + 4 := ⟨n - 4, by omega⟩
      have hh : isOp notB (L2 ++ r) = false := by
        rw [ht]
        show ((114 : UInt8) == 114 && andB == notB) = false
        decide
      have hns : NS (L2 ++ r) := by
        rw [ht]
        exact ⟨by show (114 : UInt8) ≠ 58; decide, by show (114 : UInt8) ≠ 42; decide⟩
      rw [List.append_assoc, pOr, pAnd, pNot_1 (b3 (L2 ++ r) (m + 1) hns (by omega)) hh]
      simp only
      rw [a4 r [k] (m + 2) hr (by omega)]
      simp only
      rw [lOr_1 hr.oo, joined_1q, List.singleton_append, joined_manyW hl ho]
theorem whole_or {ks : List Qy} (hl : 2 ≤ ks.length) (h : ∀ k ∈ ks, Prt k) (ho : ∀ k ∈ ks, k.op ≠ 6) : Whole (.mk 6 0 [] 0 0 ks) := by
  intro g
  match ks, hl, h, ho with
  | k :: k2 :: ks, hl, h, ho =>
    obtain ⟨L2, a1, _, a3, a4⟩ := or_tail (k2 :: ks) fun x hx => h x (by simp only [List.mem_cons] at hx ⊢; exact .inr hx)
    obtain ⟨L, b1, b2, b3⟩ := h k (by simp) g
    obtain ⟨t, ht⟩ := a3 (by simp)
    refine ⟨L ++ L2, fun rest hrest => ?_, by rw [List.length_append]; omega, fun r n hr hn => ?_⟩
    · rw [text_k (by simp), List.map_cons, join_cons, List.append_assoc]
      show tokF g (parT k ++ (joinTail ([32] ++ orB ++ [32]) ((k2 :: ks).map parT) ++ rest)) = _
      rw [b1 _ (br_tail _ hrest), a1 rest hrest, List.append_assoc]
    · rw [List.length_append] at hn
      obtain ⟨m, rfl⟩ : ∃ m, n = m + 4 := ⟨n - 4, by omega⟩
      obtain ⟨f1, f2, f3, f4⟩ := head_facts (s := orB) (R := L2 ++ r) (.inr ⟨t ++ r, by rw [ht]; rfl⟩) (by simp)
      rw [List.append_assoc, pOr, pAnd_1 (n := m + 1) (b3 (L2 ++ r) (m + 1) f1 (by omega)) (f2 (by decide)) (f3 (by decide)) f4]
      simp only
      rw [a4 r [k] (m + 3) hr (by omega), List.singleton_append, joined_manyW hl ho]
theorem whole_not {k k2 : Qy} (h1 : Prt k) (h2 : Prt k2) : Whole (.mk 7 0 [] 0 0 [k, k2]) := by
  intro g
  obtain ⟨L, b1, b2, b3⟩ := h1 g
  obtain ⟨L2, c1, c2, c3⟩ := h2 false
  refine ⟨L ++ ⟨114, notB, false⟩ :: L2, fun rest hrest => ?_, by rw [List.length_append]; omega, fun r n hr hn => ?_⟩
  · rw [text_k (by simp), List.map_cons, join_cons, List.append_assoc]
    have e : joinTail (sepT 7) ([k2].map parT) ++ rest = [32] ++ notB ++ [32] ++ (parT k2 ++ rest) := by
      have : sepT 7 = [32] ++ notB ++ [32] := by decide
      rw [this]
      simp [joinTail]
    rw [e, b1 ([32] ++ notB ++ [32] ++ (parT k2 ++ rest)) (.inr ⟨32, _, rfl, rfl⟩), tok_sep (by decide) (by decide), c1 rest hrest]
    simp
  · rw [List.length_append, List.length_cons] at hn
    obtain ⟨m, rfl⟩ : ∃ m, n = m + 4 := ⟨n - 4, by omega⟩
    have hns : NS (⟨114, notB, false⟩ :: (L2 ++ r)) := ⟨by show (114 : UInt8) ≠ 58; decide, by show (114 : UInt8) ≠ 42; decide⟩
    have hi : isOp notB (⟨114, notB, false⟩ :: (L2 ++ r)) = true := by
      show ((114 : UInt8) == 114 && notB == notB) = true
      decide
    have hp : pNot true (m + 2) (L ++ (⟨114, notB, false⟩ :: (L2 ++ r))) = some (.mk 7 0 [] 0 0 [k, k2], r) := by
      rw [pNot, b3 _ (m + 1) hns (by omega)]
      simp only
      rw [if_pos hi]
      show (match pPrim true (m + 1) (L2 ++ r) with
        | none => none
        | some (q2, r2) => some (Qy.mk 7 0 [] 0 0 [k, q2], r2)) = _
      rw [c3 r (m + 1) hr.ns (by omega)]
    rw [List.append_assoc, List.cons_append, pOr, pAnd, hp]
    simp only
    rw [lAnd_1 hr.an hr.be]
    simp only
    rw [lOr_1 hr.oo]
    rfl
theorem rt_whole : ∀ q, Rt q → Prt q ∧ Whole q := by
  refine Qy.ind ?_
  intro o f ws a b ks ih h
  have hflat : ∀ {q : Qy}, q.op < 5 → Flat q → Prt q ∧ Whole q := fun ho h => ⟨prt_flat ho h, whole_flat h⟩
  have hwh : ∀ {q : Qy}, 5 ≤ q.op → Whole q → Prt q ∧ Whole q := fun ho h => ⟨prt_whole ho h, h⟩
  cases h with
  | term h1 h2 h3 h5 h4 =>
    rcases h1 with rfl | rfl | rfl
    · obtain ⟨x, rfl, _⟩ := bys_one (h5 (by decide))
      exact hflat (show (_ : Int) < 5 by dsimp only [Qy.op]; decide) (flat_1 h2 (h4 x (by simp)))
    · obtain ⟨x, rfl, _⟩ := bys_one (h5 (by decide))
      exact hflat (show (_ : Int) < 5 by dsimp only [Qy.op]; decide) (flat_2 h2 (h4 x (by simp)))
    · exact hflat (show (_ : Int) < 5 by dsimp only [Qy.op]; decide) (flat_3 h2 h3 h4)
  | years h1 h2 => exact hflat (show (_ : Int) < 5 by dsimp only [Qy.op]; decide) (flat_4 h1 h2)
  | kids h1 h2 h4 h5 h3 =>
    have hk : ∀ k ∈ ks, Prt k := fun k hk => (ih k hk (h3 k hk)).1
    rcases h1 with rfl | rfl | rfl
    · exact hwh (show (5 : Int) ≤ _ by dsimp only [Qy.op]; decide) (whole_and h2 hk (h5 (by decide)))
    · exact hwh (show (5 : Int) ≤ _ by dsimp only [Qy.op]; decide) (whole_or h2 hk (h5 (by decide)))
    · obtain ⟨x, y, rfl⟩ : ∃ x y, ks = [x, y] := by
        have := h4 rfl
        match ks, this with
        | [x, y], _ => exact ⟨x, y, rfl⟩
      exact hwh (show (5 : Int) ≤ _ by dsimp only [Qy.op]; decide) (whole_not (hk x (by simp)) (hk y (by simp)))
/-- Parse restores what Print wrote. -/
theorem restores (q : Qy) (h : rightE q = 0) (hl : (text q).length ≤ 1000) : parse (text q) = (q, 0) := by
  have ht : treeE q = 0 := by
    unfold rightE at h
    split at h
    · exact absurd h (by decide)
    · exact h
  have hr := rt_of q ht
  obtain ⟨L, h1, _, h3⟩ := (rt_whole q hr).2 false
  have e := h1 [] br_nil
  rw [List.append_nil, tokF_nil, List.append_nil] at e
  have e2 : tokens (text q) = L := e
  have hp := h3 [] (8 * L.length + 8) End.nil (by omega)
  rw [List.append_nil] at hp
  unfold parse
  rw [if_neg (by omega), if_neg (by rw [(text_valid q hr).1]; simp), e2, hp]
  simp only
  rw [if_pos h]
end Qr
end Go.Proofs.YtkahplbjbidemaaGreatDoor

/- Plain: parentheses and blanks around a text do not change its search. -/
namespace Go.Proofs.YtkahplbjbidemaaGreatDoor
set_option maxRecDepth 100000

namespace Qr
open Go.Lib
theorem cut_app {x : By} (hx : (34 : UInt8) ∉ x) : ∀ l : By, Sp.cut 34 (l ++ x) = match Sp.cut 34 l with
    | some (a, b) => some (a, b ++ x)
    | none => none := by
  intro l
  cases hc : Sp.cut 34 l with
  | none =>
    have := Sp.cut_none.1 hc
    simp only
    exact Sp.cut_none.2 fun hm => by
      rcases List.mem_append.1 hm with hm | hm
      · exact this hm
      · exact hx hm
  | some p =>
    obtain ⟨a, b⟩ := p
    obtain ⟨e, hn⟩ := Sp.cut_eq hc
    simp only
    rw [e, List.append_assoc, List.cons_append, Sp.cut_append hn]
theorem run_sp (l x : By) : run (l ++ 32 :: x) = run l := by
  unfold run
  induction l with
  | nil => rw [List.nil_append, List.takeWhile_cons_of_neg (by decide)]; rfl
  | cons c r ih =>
    rw [List.cons_append]
    rw [List.takeWhile_cons, List.takeWhile_cons, ih]
/-- A blank behind a text, and what has no quotation mark. -/
theorem tokF_app {x : By} (hx : (34 : UInt8) ∉ x) : ∀ (n : Nat) (g : Bool) (l : By), l.length ≤ n → tokF g (l ++ 32 :: x) = tokF g l ++ tokF false x
  | n, g, [], _ => by rw [List.nil_append, tokF_sp, tokF_nil, List.nil_append]
  | 0, g, c :: r, h => by simp at h
  | n + 1, g, c :: r, h => by
    simp only [List.length_cons] at h
    rw [List.cons_append, tokF_cons, tokF_cons, cut_app (x := 32 :: x) (by simp [hx]) r, run_sp]
    by_cases h1 : c = 32
    · rw [if_pos h1, if_pos h1, tokF_app hx n false r (by omega)]
    · rw [if_neg h1, if_neg h1]
      by_cases h2 : c = 40 ∨ c = 41 ∨ c = 58 ∨ c = 42
      · rw [if_pos h2, if_pos h2, tokF_app hx n true r (by omega)]; rfl
      · rw [if_neg h2, if_neg h2]
        by_cases h3 : c = 34
        · rw [if_pos h3, if_pos h3]
          cases hc : Sp.cut 34 r with
          | none => simp only; rw [tokF_app hx n true r (by omega)]; rfl
          | some p =>
            obtain ⟨a, b⟩ := p
            have := Sp.cut_len hc
            simp only
            rw [tokF_app hx n true b (by omega)]; rfl
        · rw [if_neg h3, if_neg h3, List.drop_append_of_le_length (run_le r), tokF_app hx n true _ (by rw [List.length_drop]; omega)]; rfl
theorem tokens_around (s : By) : tokens (32 :: s ++ [32, 32]) = tokens s := by
  unfold tokens
  rw [List.cons_append, tokF_sp, show ([32, 32] : By) = 32 :: [32] from rfl, tokF_app (by decide) s.length false s (Nat.le_refl _), tokF_sp, tokF_nil, List.append_nil]
/-- The text with n parentheses around it. -/
def nest (n : Nat) (s : By) : By := (List.replicate n ([40, 32] : By)).flatten ++ s ++ (List.replicate n ([32, 41] : By)).flatten
theorem nest_succ (n : Nat) (s : By) : nest (n + 1) s = [40, 32] ++ nest n s ++ [32, 41] := by
  unfold nest
  have e : (List.replicate (n + 1) ([32, 41] : By)).flatten = (List.replicate n ([32, 41] : By)).flatten ++ [32, 41] := by
    rw [List.replicate_succ', List.flatten_append]
    simp
  rw [e, List.replicate_succ, List.flatten_cons]
  simp only [List.append_assoc]
theorem nest_toks : ∀ (n : Nat) (s : By), tokens (nest (n + 1) s) = ⟨40, [], false⟩ :: (tokens (nest n s) ++ [⟨41, [], false⟩]) := by
  intro n s
  rw [nest_succ]
  unfold tokens
  have e : ([40, 32] : By) ++ nest n s ++ [32, 41] = 40 :: 32 :: (nest n s ++ 32 :: [41]) := by simp
  rw [e, tokF_sig false _ (by simp), tokF_sp, tokF_app (by decide) (nest n s).length false _ (Nat.le_refl _)]
  rfl
/-- What is read at the front of tokens is read ahead of a closing parenthesis, too. -/
def Ext (x : PR) (f : List Tok → PR) : Prop := ∀ q r, x = some (q, r) → ∀ y : List Tok, f y = some (q, r ++ y)
/-- The tokens behind: a closing parenthesis that does not cling. -/
def Cl (y : List Tok) : Prop := ∃ z, y = ⟨41, [], false⟩ :: z
theorem Cl.lk {y : List Tok} (h : Cl y) : lk y = ⟨41, [], false⟩ := by obtain ⟨z, rfl⟩ := h; rfl
theorem lk_app {l y : List Tok} (hl : l ≠ []) : lk (l ++ y) = lk l := by
  cases l with
  | nil => exact absurd rfl hl
  | cons a b => rfl
theorem isOp_app {s : By} {l y : List Tok} (hy : Cl y) : isOp s (l ++ y) = isOp s l := by
  unfold isOp
  cases l with
  | nil => rw [List.nil_append, hy.lk]; rfl
  | cons a b => rfl
theorem word0_app {l y : List Tok} (hy : Cl y) : word0 (l ++ y) = word0 l := by
  unfold word0
  cases l with
  | nil => rw [List.nil_append, hy.lk]; rfl
  | cons a b => rfl
theorem begins_app {l y : List Tok} (hy : Cl y) : begins (l ++ y) = begins l := by
  unfold begins
  rw [word0_app hy]
  cases l with
  | nil => rw [List.nil_append, hy.lk]; rfl
  | cons a b => rfl
theorem glue_app {c : UInt8} {l y : List Tok} (hy : Cl y) : glue c (l ++ y) = glue c l := by
  unfold glue lk1
  match l with
  | [] => rw [List.nil_append, hy.lk]; rfl
  | [a] =>
    show ((a.k == 114) && ((lk y).k == c) && (lk y).g) = ((a.k == 114) && ((lk []).k == c) && (lk []).g)
    rw [hy.lk]
    simp [lk]
  | a :: b :: r => rfl
theorem ne_of_k {l : List Tok} (h : (lk l).k ≠ 0) : l ≠ [] := fun h0 => by rw [h0] at h; exact h rfl
theorem tail_app {l y : List Tok} (h : l ≠ []) : (l ++ y).tail = l.tail ++ y := by
  cases l with
  | nil => exact absurd rfl h
  | cons a b => rfl
theorem ext_years {l y : List Tok} (hy : Cl y) {q : Qy} {r : List Tok} (h : pYears true l = some (q, r)) : pYears true (l ++ y) = some (q, r ++ y) := by
  unfold pYears at h ⊢
  by_cases hk : (lk l).k = 114
  · have hne : l ≠ [] := ne_of_k (by rw [hk]; decide)
    have h1 : ((lk1 (l ++ y)).k == 58 && (lk1 (l ++ y)).g) = ((lk1 l).k == 58 && (lk1 l).g) := by
      match l, hne with
      | [a], _ =>
        show ((lk y).k == 58 && (lk y).g) = _
        rw [hy.lk]; rfl
      | a :: b :: r, _ => rfl
    rw [Bool.true_and] at h ⊢
    rw [lk_app hne, tail_app hne]
    rw [show ((lk1 (l ++ y)).k == 58 && (lk1 (l ++ y)).g) = _ from h1]
    split at h
    · cases h
    · rename_i hc
      rw [if_neg hc]
      rw [if_neg (by simp [hk])] at h ⊢
      split at h
      · cases h
      · split at h
        · rename_i e1 _ _ e2 e3
          injection h with h
          injection h with h4 h5
          rw [h4, h5]
        · cases h
  · rw [if_pos hk] at h
    split at h <;> cases h
theorem ext_term {l y : List Tok} (hy : Cl y) {f : Int} {q : Qy} {r : List Tok} (h : pTerm true f l = some (q, r)) : pTerm true f (l ++ y) = some (q, r ++ y) := by
  unfold pTerm at h ⊢
  rw [word0_app hy, glue_app hy, glue_app hy]
  split at h
  · cases h
  · rename_i hw
    have hne : l ≠ [] := ne_of_k (word0_ne (by simpa using hw))
    rw [if_neg hw, lk_app hne, tail_app hne]
    split at h
    · cases h
    · rename_i h2
      rw [if_neg h2]
      split at h
      · cases h
      · rename_i h3
        rw [if_neg h3]
        split at h
        · rename_i h4
          rw [if_pos h4]
          have hne2 : l.tail ≠ [] := by
            intro h0
            have h5 := (glue_ne h4 (by decide)).2
            unfold lk1 at h5
            rw [h0] at h5
            exact h5 rfl
          rw [tail_app hne2]
          split at h
          · cases h
          · rename_i h5
            rw [if_neg h5]
            injection h with h
            injection h with h6 h7
            rw [h6, h7]
        · rename_i h4
          rw [if_neg h4]
          split at h
          · rename_i h5
            rw [if_pos h5]
            injection h with h
            injection h with h6 h7
            rw [h6, h7]
          · rename_i h5
            rw [if_neg h5]
            injection h with h
            injection h with h6 h7
            rw [h6, h7]
theorem ext_flat {l y : List Tok} (hy : Cl y) {q : Qy} {r : List Tok} (h : pFlat true l = some (q, r)) : pFlat true (l ++ y) = some (q, r ++ y) := by
  unfold pFlat at h ⊢
  rw [word0_app hy, glue_app hy]
  split at h
  · cases h
  · rename_i hw
    have hne : l ≠ [] := ne_of_k (word0_ne (by simpa using hw))
    rw [if_neg hw, lk_app hne]
    split at h
    · rename_i h4
      have hne2 : l.tail ≠ [] := by
        intro h0
        have h5 := (glue_ne h4 (by decide)).2
        unfold lk1 at h5
        rw [h0] at h5
        exact h5 rfl
      rw [if_pos h4, tail_app hne, tail_app hne2, word0_app hy]
      split at h
      · cases h
      · rename_i h6
        split at h
        · cases h
        · rename_i h7
          have hne3 : l.tail.tail ≠ [] := ne_of_k (word0_ne (by simpa using h7))
          rw [lk_app hne3, if_neg h6, if_neg h7]
          split at h
          · rename_i h8
            rw [if_pos h8]
            exact ext_years hy h
          · rename_i h8
            rw [if_neg h8]
            split at h
            · cases h
            · exact ext_term hy h
    · rename_i h4
      rw [if_neg h4]
      exact ext_term hy h
theorem ext_all {y : List Tok} (hy : Cl y) : ∀ n,
    (∀ l q r, pOr true n l = some (q, r) → pOr true n (l ++ y) = some (q, r ++ y)) ∧ (∀ acc l q r, lOr true n acc l = some (q, r) → lOr true n acc (l ++ y) = some (q, r ++ y)) ∧
    (∀ l q r, pAnd true n l = some (q, r) → pAnd true n (l ++ y) = some (q, r ++ y)) ∧ (∀ acc l q r, lAnd true n acc l = some (q, r) → lAnd true n acc (l ++ y) = some (q, r ++ y)) ∧
    (∀ l q r, pNot true n l = some (q, r) → pNot true n (l ++ y) = some (q, r ++ y)) ∧ (∀ l q r, pPrim true n l = some (q, r) → pPrim true n (l ++ y) = some (q, r ++ y))
  | 0 => ⟨fun _ _ _ h => by simp [pOr] at h, fun _ _ _ _ h => by simp [lOr] at h, fun _ _ _ h => by simp [pAnd] at h, fun _ _ _ _ h => by simp [lAnd] at h, fun _ _ _ h => by simp [pNot] at h, fun _ _ _ h => by simp [pPrim] at h⟩
  | n + 1 => by
    obtain ⟨h1, h2, h3, h4, h5, h6⟩ := ext_all hy n
    refine ⟨fun l q r h => ?_, fun acc l q r h => ?_, fun l q r h => ?_, fun acc l q r h => ?_, fun l q r h => ?_, fun l q r h => ?_⟩
    · unfold pOr at h ⊢
      split at h
      · cases h
      · rename_i q1 r1 he
        rw [h3 _ _ _ he]
        exact h2 _ _ _ _ h
    · unfold lOr at h ⊢
      rw [isOp_app hy]
      split at h
      · rename_i ho
        rw [if_pos ho, tail_app (ne_of_k (isOp_ne ho))]
        split at h
        · cases h
        · rename_i q1 r1 he
          rw [h3 _ _ _ he]
          exact h2 _ _ _ _ h
      · rename_i ho
        rw [if_neg ho]
        injection h with h
        injection h with h7 h8
        rw [h7, h8]
    · unfold pAnd at h ⊢
      split at h
      · cases h
      · rename_i q1 r1 he
        rw [h5 _ _ _ he]
        exact h4 _ _ _ _ h
    · unfold lAnd at h ⊢
      rw [isOp_app hy, begins_app hy]
      split at h
      · rename_i ho
        rw [if_pos ho, tail_app (ne_of_k (isOp_ne ho))]
        split at h
        · cases h
        · rename_i q1 r1 he
          rw [h5 _ _ _ he]
          exact h4 _ _ _ _ h
      · rename_i ho
        rw [if_neg ho]
        split at h
        · rename_i hb
          rw [if_pos hb]
          split at h
          · cases h
          · rename_i q1 r1 he
            rw [h5 _ _ _ he]
            exact h4 _ _ _ _ h
        · rename_i hb
          rw [if_neg hb]
          injection h with h
          injection h with h7 h8
          rw [h7, h8]
    · unfold pNot at h ⊢
      split at h
      · cases h
      · rename_i q1 r1 he
        rw [h6 _ _ _ he]
        simp only
        rw [isOp_app hy]
        split at h
        · rename_i ho
          rw [if_pos ho, tail_app (ne_of_k (isOp_ne ho))]
          split at h
          · cases h
          · rename_i q2 r2 he2
            rw [h6 _ _ _ he2]
            injection h with h
            injection h with h7 h8
            simp only
            rw [h7, h8]
        · rename_i ho
          rw [if_neg ho]
          injection h with h
          injection h with h7 h8
          rw [h7, h8]
    · unfold pPrim at h ⊢
      split at h
      · rename_i hk
        have hne : l ≠ [] := ne_of_k (by rw [hk]; decide)
        rw [lk_app hne, if_pos hk, tail_app hne]
        split at h
        · cases h
        · rename_i q1 r1 he
          rw [h1 _ _ _ he]
          simp only
          split at h
          · rename_i hc
            have hne1 : r1 ≠ [] := ne_of_k (by rw [hc]; decide)
            rw [lk_app hne1, if_pos hc, tail_app hne1]
            injection h with h
            injection h with h7 h8
            rw [h7, h8]
          · cases h
      · rename_i hk
        have h9 := ext_flat hy h
        by_cases hne : l = []
        · subst hne
          have : pFlat true [] = none := by decide +kernel
          rw [this] at h
          cases h
        · rw [lk_app hne, if_neg hk]
          exact h9
/-- Parentheses around what is read. -/
theorem paren {n : Nat} {l : List Tok} {q : Qy} (h : pOr true n l = some (q, [])) : pOr true (n + 4) (⟨40, [], false⟩ :: (l ++ [⟨41, [], false⟩])) = some (q, []) := by
  have h1 := (ext_all (y := [⟨41, [], false⟩]) ⟨[], rfl⟩ n).1 l q [] h
  have hp : pPrim true (n + 1) (⟨40, [], false⟩ :: (l ++ [⟨41, [], false⟩])) = some (q, []) := by
    rw [pPrim, if_pos (show (lk (⟨40, [], false⟩ :: (l ++ [⟨41, [], false⟩]))).k = 40 from rfl)]
    show (match pOr true n (l ++ [⟨41, [], false⟩]) with
      | none => none
      | some (q, r') => if (lk r').k = 41 then some (q, r'.tail) else none) = _
    rw [h1]
    rfl
  rw [pOr, pAnd_1 hp (by decide) (by decide) (by decide)]
  simp only
  rw [lOr_1 (by decide)]
  rfl
end Qr
end Go.Proofs.YtkahplbjbidemaaGreatDoor

/- Plain: more fuel changes nothing; the search of a text in parentheses; the reference's reader, which looks at a glued colon later, comes to the same; what is read has no open quotation. -/
namespace Go.Proofs.YtkahplbjbidemaaGreatDoor
set_option maxRecDepth 100000

namespace Qr
open Go.Lib
theorem fuel_all (st : Bool) : ∀ n m, n ≤ m →
    (∀ l x, pOr st n l = some x → pOr st m l = some x) ∧ (∀ acc l x, lOr st n acc l = some x → lOr st m acc l = some x) ∧
    (∀ l x, pAnd st n l = some x → pAnd st m l = some x) ∧ (∀ acc l x, lAnd st n acc l = some x → lAnd st m acc l = some x) ∧
    (∀ l x, pNot st n l = some x → pNot st m l = some x) ∧ (∀ l x, pPrim st n l = some x → pPrim st m l = some x)
  | 0, _, _ => ⟨fun _ _ h => by simp [pOr] at h, fun _ _ _ h => by simp [lOr] at h, fun _ _ h => by simp [pAnd] at h, fun _ _ _ h => by simp [lAnd] at h, fun _ _ h => by simp [pNot] at h, fun _ _ h => by simp [pPrim] at h⟩
  | n + 1, 0, hm => by omega
  | n + 1, m + 1, hm => by
    obtain ⟨h1, h2, h3, h4, h5, h6⟩ := fuel_all st n m (by omega)
    refine ⟨fun l x h => ?_, fun acc l x h => ?_, fun l x h => ?_, fun acc l x h => ?_, fun l x h => ?_, fun l x h => ?_⟩
    · unfold pOr at h ⊢
      split at h
      · cases h
      · rename_i q1 r1 he
        rw [h3 _ _ he]
        exact h2 _ _ _ h
    · unfold lOr at h ⊢
      split at h
      · rename_i ho
        rw [if_pos ho]
        split at h
        · cases h
        · rename_i q1 r1 he
          rw [h3 _ _ he]
          exact h2 _ _ _ h
      · rename_i ho
        rw [if_neg ho]
        exact h
    · unfold pAnd at h ⊢
      split at h
      · cases h
      · rename_i q1 r1 he
        rw [h5 _ _ he]
        exact h4 _ _ _ h
    · unfold lAnd at h ⊢
      split at h
      · rename_i ho
        rw [if_pos ho]
        split at h
        · cases h
        · rename_i q1 r1 he
          rw [h5 _ _ he]
          exact h4 _ _ _ h
      · rename_i ho
        rw [if_neg ho]
        split at h
        · rename_i hb
          rw [if_pos hb]
          split at h
          · cases h
          · rename_i q1 r1 he
            rw [h5 _ _ he]
            exact h4 _ _ _ h
        · rename_i hb
          rw [if_neg hb]
          exact h
    · unfold pNot at h ⊢
      split at h
      · cases h
      · rename_i q1 r1 he
        rw [h6 _ _ he]
        simp only
        split at h
        · rename_i ho
          rw [if_pos ho]
          split at h
          · cases h
          · rename_i q2 r2 he2
            rw [h6 _ _ he2]
            exact h
        · rename_i ho
          rw [if_neg ho]
          exact h
    · unfold pPrim at h ⊢
      split at h
      · rename_i hk
        rw [if_pos hk]
        split at h
        · cases h
        · rename_i q1 r1 he
          rw [h1 _ _ he]
          exact h
      · rename_i hk
        rw [if_neg hk]
        exact h
theorem nest_read (s : By) (q : Qy) (h : pOr true (8 * (tokens s).length + 8) (tokens s) = some (q, [])) : ∀ n, pOr true (8 * (tokens (nest n s)).length + 8) (tokens (nest n s)) = some (q, [])
  | 0 => by simpa [nest] using h
  | n + 1 => by
    have := paren (nest_read s q h n)
    rw [nest_toks]
    exact (fuel_all true _ _ (by simp only [List.length_cons, List.length_append, List.length_nil]; omega)).1 _ _ this
theorem nest_len (s : By) : ∀ n, (nest n s).length = s.length + 4 * n
  | 0 => by simp [nest]
  | n + 1 => by rw [nest_succ, List.length_append, List.length_append, nest_len s n]; simp only [List.length_cons, List.length_nil]; omega
theorem nest_valid (s : By) (h : Tx.valid s = true) : ∀ n, Tx.valid (nest n s) = true
  | 0 => by simpa [nest] using h
  | n + 1 => by rw [nest_succ]; exact Rc.valid_app (Rc.valid_app (by decide +kernel) (nest_valid s h n)) (by decide +kernel)
theorem nests (s : By) (n : Nat) (hs : s.length ≤ 500) (hn : n ≤ 100) (hv : Tx.valid s = true) (q : Qy) (h : parse s = (q, 0)) : parse (nest n s) = (q, 0) := by
  unfold parse at h ⊢
  have hl := nest_len s n
  rw [if_neg (by omega), if_neg (by rw [hv]; simp)] at h
  rw [if_neg (by omega), if_neg (by rw [nest_valid s hv n]; simp)]
  split at h
  · rename_i q1 he
    split at h
    · rename_i hr
      injection h with h _
      subst h
      rw [nest_read s q1 he n]
      simp only
      rw [if_pos hr]
    · rename_i hr
      injection h with _ h
      exact absurd h hr
  · injection h with _ h
    exact absurd h (by decide)
theorem blanks (s : By) (hs : s.length ≤ 500) (hv : Tx.valid s = true) : parse (32 :: s ++ [32, 32]) = parse s := by
  have hv2 : Tx.valid (32 :: s ++ [32, 32]) = true := by
    have e : (32 :: s ++ [32, 32] : By) = [32] ++ s ++ [32, 32] := rfl
    rw [e]
    exact Rc.valid_app (Rc.valid_app (by decide +kernel) hv) (by decide +kernel)
  have hl : (32 :: s ++ [32, 32] : By).length = s.length + 3 := by simp
  unfold parse
  rw [tokens_around, if_neg (show ¬ 1000 < (32 :: s ++ [32, 32] : By).length by omega), if_neg (show ¬ 1000 < s.length by omega), if_neg (show ¬ Tx.valid (32 :: s ++ [32, 32]) = false by rw [hv2]; simp), if_neg (show ¬ Tx.valid s = false by rw [hv]; simp)]

/-! the reference's reader -/
/-- A glued colon lies ahead. -/
def Stk (r : List Tok) : Prop := (lk r).k = 58 ∧ (lk r).g = true
theorem Stk.op {r : List Tok} (h : Stk r) (s : By) : isOp s r = false := by unfold isOp; rw [h.1]; rfl
theorem Stk.beg {r : List Tok} (h : Stk r) : begins r = false := by unfold begins word0; rw [h.1]; rfl
/-- What the two readers answer. -/
def Two (x y : PR) : Prop := y = x ∨ (x = none ∧ ∃ q r, y = some (q, r) ∧ Stk r)
theorem Two.refl (x : PR) : Two x x := .inl rfl
theorem two_years (l : List Tok) : Two (pYears true l) (pYears false l) := by
  unfold pYears
  by_cases h : ((lk1 l).k == 58 && (lk1 l).g) = true
  · rw [if_pos (by rw [Bool.true_and]; exact h), if_neg (show ¬ (false && (lk1 l).k == 58 && (lk1 l).g) = true by simp)]
    split
    · exact .inl rfl
    · split
      · exact .inl rfl
      · split
        · refine .inr ⟨rfl, _, _, rfl, ?_⟩
          unfold lk1 at h
          rw [Bool.and_eq_true, beq_iff_eq] at h
          exact h
        · exact .inl rfl
  · rw [if_neg (by rw [Bool.true_and]; exact h), if_neg (show ¬ (false && (lk1 l).k == 58 && (lk1 l).g) = true by simp)]
    exact .inl rfl
theorem two_term (f : Int) (l : List Tok) : Two (pTerm true f l) (pTerm false f l) := by
  unfold pTerm
  by_cases hw : word0 l = false
  · rw [if_pos hw, if_pos hw]; exact .inl rfl
  · rw [if_neg hw, if_neg hw]
    by_cases h : glue 58 l = true
    · rw [if_pos (by rw [Bool.true_and]; exact h), if_neg (show ¬ (false && glue 58 l) = true by simp)]
      have hst : Stk l.tail := by
        unfold glue lk1 at h
        simp only [Bool.and_eq_true, beq_iff_eq] at h
        exact ⟨h.1.2, h.2⟩
      have h42 : glue 42 l = false := by
        unfold glue
        rw [show (lk1 l).k = 58 from hst.1]
        simp
      rw [if_neg (show ¬ glue 42 l = true by rw [h42]; simp)]
      split
      · exact .inl rfl
      · split
        · exact .inr ⟨rfl, _, _, rfl, hst⟩
        · exact .inr ⟨rfl, _, _, rfl, hst⟩
    · rw [if_neg (by rw [Bool.true_and]; exact h), if_neg (show ¬ (false && glue 58 l) = true by simp)]
      exact .inl rfl
theorem two_flat (l : List Tok) : Two (pFlat true l) (pFlat false l) := by
  unfold pFlat
  repeat' split
  all_goals first | exact .inl rfl | exact two_years _ | exact two_term _ _
theorem Two.none {x y : PR} (h : Two x y) (hy : y = none) : x = none := by
  rcases h with h | ⟨h, _⟩
  · rw [← h, hy]
  · exact h
theorem two_all : ∀ n,
    (∀ l, Two (pOr true n l) (pOr false n l)) ∧ (∀ acc l, Two (lOr true n acc l) (lOr false n acc l)) ∧
    (∀ l, Two (pAnd true n l) (pAnd false n l)) ∧ (∀ acc l, Two (lAnd true n acc l) (lAnd false n acc l)) ∧
    (∀ l, Two (pNot true n l) (pNot false n l)) ∧ (∀ l, Two (pPrim true n l) (pPrim false n l))
  | 0 => ⟨fun _ => by simp [pOr, Two], fun _ _ => by simp [lOr, Two], fun _ => by simp [pAnd, Two], fun _ _ => by simp [lAnd, Two], fun _ => by simp [pNot, Two], fun _ => by simp [pPrim, Two]⟩
  | n + 1 => by
    obtain ⟨h1, h2, h3, h4, h5, h6⟩ := two_all n
    have s2 : ∀ acc r, Stk r → lOr false n acc r = none ∨ ∃ q, lOr false n acc r = some (q, r) := fun acc r hr => by
      cases n with
      | zero => exact .inl (by rw [lOr])
      | succ k => exact .inr ⟨_, by rw [lOr, if_neg (by rw [hr.op]; simp)]⟩
    have s4 : ∀ acc r, Stk r → lAnd false n acc r = none ∨ ∃ q, lAnd false n acc r = some (q, r) := fun acc r hr => by
      cases n with
      | zero => exact .inl (by rw [lAnd])
      | succ k => exact .inr ⟨_, by rw [lAnd, if_neg (by rw [hr.op]; simp), if_neg (by rw [hr.beg]; simp)]⟩
    have goOr : ∀ (acc : Qy → List Qy) l, Two (match pAnd true n l with
        | none => none
        | some (q, r') => lOr true n (acc q) r') (match pAnd false n l with
        | none => none
        | some (q, r') => lOr false n (acc q) r') := fun acc l => by
      rcases h3 l with h | ⟨h, q, r, h9, hs⟩
      · rw [h]
        split
        · exact .inl rfl
        · exact h2 _ _
      · rw [h, h9]
        simp only
        rcases s2 (acc q) r hs with h8 | ⟨q2, h8⟩
        · rw [h8]; exact .inl rfl
        · rw [h8]; exact .inr ⟨rfl, _, _, rfl, hs⟩
    have goAnd : ∀ (acc : Qy → List Qy) l, Two (match pNot true n l with
        | none => none
        | some (q, r') => lAnd true n (acc q) r') (match pNot false n l with
        | none => none
        | some (q, r') => lAnd false n (acc q) r') := fun acc l => by
      rcases h5 l with h | ⟨h, q, r, h9, hs⟩
      · rw [h]
        split
        · exact .inl rfl
        · exact h4 _ _
      · rw [h, h9]
        simp only
        rcases s4 (acc q) r hs with h8 | ⟨q2, h8⟩
        · rw [h8]; exact .inl rfl
        · rw [h8]; exact .inr ⟨rfl, _, _, rfl, hs⟩
    refine ⟨fun l => ?_, fun acc l => ?_, fun l => ?_, fun acc l => ?_, fun l => ?_, fun l => ?_⟩
    · unfold pOr
      exact goOr _ l
    · unfold lOr
      split
      · exact goOr _ _
      · exact .inl rfl
    · unfold pAnd
      exact goAnd _ l
    · unfold lAnd
      split
      · exact goAnd _ _
      · split
        · exact goAnd _ _
        · exact .inl rfl
    · unfold pNot
      rcases h6 l with h | ⟨h, q, r, h9, hs⟩
      · rw [h]
        split
        · exact .inl rfl
        · rename_i q1 r1 _
          split
          · rcases h6 r1.tail with h | ⟨h, q, r, h9, hs⟩
            · rw [h]; exact .inl rfl
            · rw [h, h9]
              exact .inr ⟨rfl, _, _, rfl, hs⟩
          · exact .inl rfl
      · rw [h, h9]
        simp only
        rw [if_neg (by rw [hs.op]; simp)]
        exact .inr ⟨rfl, _, _, rfl, hs⟩
    · unfold pPrim
      split
      · rcases h1 l.tail with h | ⟨h, q, r, h9, hs⟩
        · rw [h]; exact .inl rfl
        · rw [h, h9]
          simp only
          rw [if_neg (by rw [hs.1]; decide)]
          exact .inl rfl
      · exact two_flat l
/-- The reference's Parse, behind its tokens. -/
theorem parse_ref (s : By) : parse s = if 1000 < s.length then (.mk 0 0 [] 0 0 [], 4)
  else if Tx.valid s = false then (.mk 0 0 [] 0 0 [], 3)
  else match pOr false (8 * (tokens s).length + 8) (tokens s) with
    | some (q, []) => if rightE q = 0 then (q, 0) else (.mk 0 0 [] 0 0 [], rightE q)
    | _ => (.mk 0 0 [] 0 0 [], 3) := by
  unfold parse
  rcases (two_all (8 * (tokens s).length + 8)).1 (tokens s) with h | ⟨h, q, r, h9, hs⟩
  · rw [h]
    generalize pOr true (8 * (tokens s).length + 8) (tokens s) = x
    rcases x with _ | ⟨q, _ | ⟨a, b⟩⟩ <;> rfl
  · rw [h, h9]
    cases r with
    | nil => exact absurd hs.1 (by decide)
    | cons a b => rfl

/-! what is read has no open quotation -/
def Cln (l r : List Tok) : Prop := ∃ p, l = p ++ r ∧ ∀ t ∈ p, t.k ≠ 34
theorem Cln.refl (l : List Tok) : Cln l l := ⟨[], rfl, by simp⟩
theorem Cln.trans {a b c : List Tok} (h : Cln a b) (k : Cln b c) : Cln a c := by
  obtain ⟨p, rfl, hp⟩ := h
  obtain ⟨q, rfl, hq⟩ := k
  exact ⟨p ++ q, by simp, fun t ht => by
    rcases List.mem_append.1 ht with ht | ht
    · exact hp t ht
    · exact hq t ht⟩
theorem Cln.tail {l : List Tok} (h : (lk l).k ≠ 34) : Cln l l.tail := by
  cases l with
  | nil => exact .refl _
  | cons a b => exact ⟨[a], rfl, fun t ht => by rw [List.mem_singleton] at ht; rw [ht]; exact h⟩
theorem word0_34 {l : List Tok} (h : word0 l = true) : (lk l).k ≠ 34 := by
  intro h0
  unfold word0 at h
  rw [h0] at h
  simp at h
theorem isOp_34 {s : By} {l : List Tok} (h : isOp s l = true) : (lk l).k ≠ 34 := by
  intro h0
  unfold isOp at h
  rw [h0] at h
  simp at h
theorem glue_34 {c : UInt8} {l : List Tok} (h : glue c l = true) (hc : c ≠ 34) : (lk l.tail).k ≠ 34 := by
  unfold glue lk1 at h
  simp only [Bool.and_eq_true, beq_iff_eq] at h
  rw [h.1.2]
  exact hc
def Out (l : List Tok) (x : PR) : Prop := ∀ q r, x = some (q, r) → Cln l r
theorem Out.none (l : List Tok) : Out l none := fun _ _ h => by cases h
theorem Out.some {l r : List Tok} {q : Qy} (h : Cln l r) : Out l (some (q, r)) := fun _ _ e => by injection e with e; injection e with _ e; rw [← e]; exact h
theorem out_years (st : Bool) (l : List Tok) (hw : word0 l = true) : Out l (pYears st l) := by
  unfold pYears
  repeat' split
  all_goals first | exact .none _ | exact .some (.tail (word0_34 hw))
theorem out_term (st : Bool) (f : Int) (l : List Tok) : Out l (pTerm st f l) := by
  unfold pTerm
  split
  · exact .none _
  · rename_i hw
    have h1 : Cln l l.tail := .tail (word0_34 (by simpa using hw))
    split
    · exact .none _
    · split
      · exact .none _
      · split
        · rename_i h42
          have h2 : Cln l l.tail.tail := h1.trans (.tail (glue_34 h42 (by decide)))
          split
          · exact .none _
          · exact .some h2
        · split <;> exact .some h1
theorem out_flat (st : Bool) (l : List Tok) : Out l (pFlat st l) := by
  unfold pFlat
  split
  · exact .none _
  · rename_i hw
    have h1 : Cln l l.tail := .tail (word0_34 (by simpa using hw))
    split
    · rename_i h58
      have h2 : Cln l l.tail.tail := h1.trans (.tail (glue_34 h58 (by decide)))
      split
      · exact .none _
      · split
        · exact .none _
        · rename_i hw2
          split
          · exact fun q r e => h2.trans (out_years st _ (by simpa using hw2) q r e)
          · split
            · exact .none _
            · exact fun q r e => h2.trans (out_term st _ _ q r e)
    · exact out_term st 0 l
theorem out_all (st : Bool) : ∀ n,
    (∀ l, Out l (pOr st n l)) ∧ (∀ acc l, Out l (lOr st n acc l)) ∧ (∀ l, Out l (pAnd st n l)) ∧ (∀ acc l, Out l (lAnd st n acc l)) ∧ (∀ l, Out l (pNot st n l)) ∧ (∀ l, Out l (pPrim st n l))
  | 0 => ⟨fun l => by rw [pOr]; exact .none l, fun _ l => by rw [lOr]; exact .none l, fun l => by rw [pAnd]; exact .none l, fun _ l => by rw [lAnd]; exact .none l, fun l => by rw [pNot]; exact .none l, fun l => by rw [pPrim]; exact .none l⟩
  | n + 1 => by
    obtain ⟨h1, h2, h3, h4, h5, h6⟩ := out_all st n
    refine ⟨fun l => ?_, fun acc l => ?_, fun l => ?_, fun acc l => ?_, fun l => ?_, fun l => ?_⟩
    · unfold pOr
      split
      · exact .none _
      · rename_i q1 r1 he
        exact fun q r e => (h3 l _ _ he).trans (h2 _ _ q r e)
    · unfold lOr
      split
      · rename_i ho
        split
        · exact .none _
        · rename_i q1 r1 he
          exact fun q r e => ((Cln.tail (isOp_34 ho)).trans (h3 _ _ _ he)).trans (h2 _ _ q r e)
      · exact .some (.refl _)
    · unfold pAnd
      split
      · exact .none _
      · rename_i q1 r1 he
        exact fun q r e => (h5 l _ _ he).trans (h4 _ _ q r e)
    · unfold lAnd
      split
      · rename_i ho
        split
        · exact .none _
        · rename_i q1 r1 he
          exact fun q r e => ((Cln.tail (isOp_34 ho)).trans (h5 _ _ _ he)).trans (h4 _ _ q r e)
      · split
        · split
          · exact .none _
          · rename_i q1 r1 he
            exact fun q r e => (h5 _ _ _ he).trans (h4 _ _ q r e)
        · exact .some (.refl _)
    · unfold pNot
      split
      · exact .none _
      · rename_i q1 r1 he
        split
        · rename_i ho
          split
          · exact .none _
          · rename_i q2 r2 he2
            exact .some (((h6 l _ _ he).trans (.tail (isOp_34 ho))).trans (h6 _ _ _ he2))
        · exact .some (h6 l _ _ he)
    · unfold pPrim
      split
      · rename_i hk
        split
        · exact .none _
        · rename_i q1 r1 he
          split
          · rename_i hc
            exact .some (((Cln.tail (by rw [hk]; decide)).trans (h1 _ _ _ he)).trans (.tail (by rw [hc]; decide)))
          · exact .none _
      · exact out_flat st l
/-- A text with an open quotation is no search. -/
theorem open_quote {s : By} (h : (tokens s).any (fun t => t.k == 34) = true) {n : Nat} {st : Bool} {q : Qy} : pOr st n (tokens s) ≠ some (q, []) := by
  intro e
  obtain ⟨p, hp, hc⟩ := (out_all st n).1 _ _ _ e
  rw [List.append_nil] at hp
  rw [hp] at h
  obtain ⟨t, ht, hk⟩ := List.any_eq_true.1 h
  exact hc t ht (by simpa using hk)
end Qr
end Go.Proofs.YtkahplbjbidemaaGreatDoor
