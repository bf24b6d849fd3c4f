/- Plain: the subfields of another heading, step by step; no program stands in this file. -/
import Derived.Test.YtlinaeklhkfbcaaGreatDoorHgM
namespace Go.Proofs.YtlinaeklhkfbcaaGreatDoor
namespace Ct
open Go.Lib Rc Hd

def mkS (l : List (UInt8 × By)) : List (UInt8 × ByteArray) := l.map fun x => (x.1, (⟨x.2.toArray⟩ : ByteArray))
theorem heads_none {h : By} (hn : name h = none) : headSubs 1 h = [(97, h)] := by unfold headSubs; rw [if_neg (by decide), if_pos rfl, hn]
theorem heads_nodate {h l f d : By} (hn : name h = some (l, f, d)) (hd : d = []) : headSubs 1 h = [(97, h)] := by
  unfold headSubs
  rw [if_neg (by decide), if_pos rfl, hn]
  simp only
  rw [if_pos hd]
theorem heads_last {h l f d : By} (hn : name h = some (l, f, d)) (hd : d ≠ []) (hf : f = []) : headSubs 1 h = [(97, l), (100, d)] := by
  unfold headSubs
  rw [if_neg (by decide), if_pos rfl, hn]
  simp only
  rw [if_neg hd, if_pos hf]
theorem heads_first {h l f d : By} (hn : name h = some (l, f, d)) (hd : d ≠ []) (hf : f ≠ []) : headSubs 1 h = [(97, l ++ [44, 32] ++ f), (100, d)] := by
  unfold headSubs
  rw [if_neg (by decide), if_pos rfl, hn]
  simp only
  rw [if_neg hd, if_neg hf]
theorem heads_3 (h : By) : headSubs 3 h = partSubs true (parts h) := by unfold headSubs; rw [if_pos rfl]
theorem heads_o {k : Int} (h : By) (h1 : k ≠ 1) (h3 : k ≠ 3) : headSubs k h = [(97, h)] := by unfold headSubs; rw [if_neg h3, if_neg h1]
theorem codes_1 : headCodes 1 = [97, 100] := rfl
theorem codes_3 : headCodes 3 = [97, 120, 121, 122] := rfl
theorem codes_o {k : Int} (h1 : k ≠ 1) (h3 : k ≠ 3) : headCodes k = [97] := by unfold headCodes; rw [if_neg h1, if_neg h3]
theorem putF_0 {f : Fl} {h : By} (hk : kindOf f.tag.data.toList = 0) : putF f h = f := by unfold putF; rw [if_pos hk]
def keepC (k : Int) (x : UInt8 × ByteArray) : Bool := !(headCodes k).contains x.1
theorem putF_subs {f : Fl} {h : By} {k : Int} (hk : kindOf f.tag.data.toList = k) (h0 : k ≠ 0) : putF f h = { f with subs := mkS (headSubs k h) ++ f.subs.filter (keepC k) } := by
  unfold putF
  rw [hk, if_neg h0]
  rfl
theorem filt_take {α : Type} {xs : List α} {k : Nat} {x : α} (p : α → Bool) (hx : xs[k]? = some x) : (xs.take (k + 1)).filter p = (xs.take k).filter p ++ if p x = true then [x] else [] := by
  rw [List.take_add_one, hx, List.filter_append]
  congr 1
  by_cases h : p x = true
  · simp [h]
  · simp [h]
theorem name_len {s l f d : By} (h : name s = some (l, f, d)) : l.length ≤ s.length ∧ f.length ≤ s.length ∧ d.length ≤ s.length := by
  have hl := (split_at (s := s) (sep := [44, 32]) (by simp)).2
  unfold name at h
  split at h
  · cases h
  · split at h
    · cases h
    · split at h
      · rename_i e
        rw [e] at hl
        injection h with h
        injection h with h1 h2
        injection h2 with h2 h3
        subst h1 h2 h3
        exact ⟨hl _ (by simp), by simp, by simp⟩
      · rename_i e
        rw [e] at hl
        split at h
        · injection h with h
          injection h with h1 h2
          injection h2 with h2 h3
          subst h1 h2 h3
          exact ⟨hl _ (by simp), by simp, hl _ (by simp)⟩
        · injection h with h
          injection h with h1 h2
          injection h2 with h2 h3
          subst h1 h2 h3
          exact ⟨hl _ (by simp), hl _ (by simp), by simp⟩
      · rename_i e
        rw [e] at hl
        split at h
        · injection h with h
          injection h with h1 h2
          injection h2 with h2 h3
          subst h1 h2 h3
          exact ⟨hl _ (by simp), hl _ (by simp), hl _ (by simp)⟩
        · cases h
      · cases h
/-- The parts of a heading with their codes. -/
def pS : Bool → List ByteArray → List (UInt8 × ByteArray)
  | _, [] => []
  | b, p :: r => ((if b = true then 97 else 120), p) :: pS false r
theorem pS_mk : ∀ (xs : List ByteArray) (b : Bool), mkS (partSubs b (xs.map (·.data.toList))) = pS b xs
  | [], _ => rfl
  | x :: r, b => by
    have ih := pS_mk r false
    unfold pS
    rw [← ih]
    rfl
theorem pS_len : ∀ (xs : List ByteArray) (b : Bool), (pS b xs).length = xs.length
  | [], _ => rfl
  | x :: r, b => by unfold pS; rw [List.length_cons, List.length_cons, pS_len r false]
theorem pS_get : ∀ (xs : List ByteArray) (b : Bool) (k : Nat) (x : ByteArray), xs[k]? = some x → (pS b xs)[k]? = some ((if b = true ∧ k = 0 then 97 else 120), x)
  | [], _, k, x, h => by simp at h
  | y :: r, b, 0, x, h => by
    simp at h
    subst h
    unfold pS
    simp
  | y :: r, b, k + 1, x, h => by
    unfold pS
    rw [List.getElem?_cons_succ, pS_get r false k x (by simpa using h)]
    simp
theorem pS_take {xs : List ByteArray} {k : Nat} {x : ByteArray} (h : xs[k]? = some x) : (pS true xs).take (k + 1) = (pS true xs).take k ++ [((if k = 0 then 97 else 120), x)] := by
  rw [List.take_add_one, pS_get xs true k x h]
  simp
end Ct
end Go.Proofs.YtlinaeklhkfbcaaGreatDoor
