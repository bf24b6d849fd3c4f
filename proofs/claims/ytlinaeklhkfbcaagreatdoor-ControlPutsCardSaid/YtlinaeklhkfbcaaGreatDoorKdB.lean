/- Plain: the records that use an authority; what a turn makes of them; no program stands in this file. -/
import Derived.Test.YtlinaeklhkfbcaaGreatDoorKdA
import Derived.Test.YtlinaeklhkfbcaaGreatDoorCpA
namespace Go.Proofs.YtlinaeklhkfbcaaGreatDoor
namespace Ct
open Go.Lib Rc Cp

def uses (l : List Rd) (id : Int) : List Int := if id < 1 then [] else puts ltI ((l.filter (usesR · id)).map (·.id))
theorem uses_mem {l : List Rd} {id : Int} (h : ¬ id < 1) (z : Int) : z ∈ uses l id ↔ ∃ r ∈ l, usesR r id = true ∧ r.id = z := by
  unfold uses
  rw [if_neg h, puts_mem, List.mem_map]
  constructor
  · rintro ⟨r, hr, e⟩
    rw [List.mem_filter] at hr
    exact ⟨r, hr.1, hr.2, e⟩
  · rintro ⟨r, hr, h2, e⟩
    exact ⟨r, List.mem_filter.2 ⟨hr, h2⟩, e⟩
theorem turnF_auth {a b : Int} (hab : a ≠ b) (f : Fl) : ((turnF a b f).auth == a) = false := by
  unfold turnF
  split
  · simpa using fun e : b = a => hab e.symm
  · rename_i h
    simpa using h
theorem turnF_to {a b : Int} (f : Fl) : ((turnF a b f).auth == b) = (f.auth == a || f.auth == b) := by
  unfold turnF
  split
  · rename_i h; simp [h]
  · rename_i h
    have : (f.auth == a) = false := by simpa using h
    rw [this]
    simp
theorem turnR_from {a b : Int} (hab : a ≠ b) (r : Rd) : usesR (turnR a b r) a = false := by
  unfold usesR turnR
  simp only [List.any_map]
  rw [List.any_eq_false]
  intro f _
  simp only [Function.comp]
  rw [turnF_auth hab]
  simp
theorem turnR_to {a b : Int} (r : Rd) : usesR (turnR a b r) b = (usesR r a || usesR r b) := by
  unfold usesR turnR
  simp only [List.any_map]
  rw [Bool.eq_iff_iff, Bool.or_eq_true, List.any_eq_true, List.any_eq_true, List.any_eq_true]
  constructor
  · rintro ⟨f, hf, h⟩
    simp only [Function.comp] at h
    rw [turnF_to, Bool.or_eq_true] at h
    rcases h with h | h
    · exact .inl ⟨f, hf, h⟩
    · exact .inr ⟨f, hf, h⟩
  · rintro (⟨f, hf, h⟩ | ⟨f, hf, h⟩)
    · exact ⟨f, hf, by simp only [Function.comp]; rw [turnF_to, h]; rfl⟩
    · exact ⟨f, hf, by simp only [Function.comp]; rw [turnF_to, h]; simp⟩
theorem turn_from {a b : Int} (ha : ¬ a < 1) (hab : a ≠ b) (l : List Rd) : uses (turn a b l) a = [] := by
  unfold uses turn
  rw [if_neg ha, if_neg ha]
  have : (l.map (turnR a b)).filter (usesR · a) = [] := by
    rw [List.filter_eq_nil_iff]
    intro r hr
    obtain ⟨q, _, rfl⟩ := List.mem_map.1 hr
    rw [turnR_from hab]
    simp
  rw [this]
  rfl
theorem turn_to {a b : Int} (ha : ¬ a < 1) (hb : ¬ b < 1) (l : List Rd) : (uses l a).foldl (put ltI) (uses l b) = uses (turn a b l) b := by
  have h1 : Asc ltI (uses l b) := by unfold uses; rw [if_neg hb]; exact puts_asc ordI _
  have h2 : Asc ltI (uses (turn a b l) b) := by unfold uses; rw [if_neg hb]; exact puts_asc ordI _
  refine asc_unique ordI _ _ (foldl_put_asc ordI _ _ h1) h2 fun z => ?_
  rw [foldl_put_mem, uses_mem hb, uses_mem ha, uses_mem hb]
  unfold turn
  rw [if_neg ha]
  constructor
  · rintro (⟨r, hr, h, e⟩ | ⟨r, hr, h, e⟩)
    · exact ⟨turnR a b r, List.mem_map.2 ⟨r, hr, rfl⟩, by rw [turnR_to, h]; simp, e⟩
    · exact ⟨turnR a b r, List.mem_map.2 ⟨r, hr, rfl⟩, by rw [turnR_to, h]; rfl, e⟩
  · rintro ⟨q, hq, h, e⟩
    obtain ⟨r, hr, rfl⟩ := List.mem_map.1 hq
    rw [turnR_to, Bool.or_eq_true] at h
    rcases h with h | h
    · exact .inr ⟨r, hr, h, e⟩
    · exact .inl ⟨r, hr, h, e⟩
theorem turn_len (a b : Int) (l : List Rd) : (turn a b l).length = l.length := by
  unfold turn
  split
  · rfl
  · rw [List.length_map]
end Ct
end Go.Proofs.YtlinaeklhkfbcaaGreatDoor
