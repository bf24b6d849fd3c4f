/- Plain: a record as one line, as lines, as a citation; no program stands in this file. -/
import Derived.Test.YtlinaeklhkfbcaaGreatDoorRcA
import Derived.Test.YtlinaeklhkfbcaaGreatDoorWrB
import Derived.Test.YtlinaeklhkfbcaaGreatDoorCpA
namespace Go.Proofs.YtlinaeklhkfbcaaGreatDoor
namespace Ds
open Go.Lib Rc

/-- The table of labels. -/
def rows : List (By × By × By) := [([48, 50, 48], [73, 83, 66, 78], [97]), ([48, 50, 50], [73, 83, 83, 78], [97]), ([49, 48, 48], [65, 117, 116, 104, 111, 114], [97, 100]), ([49, 49, 48], [65, 117, 116, 104, 111, 114], [97, 98]), ([50, 52, 53], [84, 105, 116, 108, 101], [97, 98, 99, 110, 112]), ([50, 53, 48], [69, 100, 105, 116, 105, 111, 110], [97, 98]), ([50, 54, 48], [80, 117, 98, 108, 105, 115, 104, 101, 100], [97, 98, 99]), ([50, 54, 52], [80, 117, 98, 108, 105, 115, 104, 101, 100], [97, 98, 99]), ([51, 48, 48], [69, 120, 116, 101, 110, 116], [97, 98, 99]), ([52, 52, 48], [83, 101, 114, 105, 101, 115], [97, 118]), ([52, 57, 48], [83, 101, 114, 105, 101, 115], [97, 118]), ([53, 48, 48], [78, 111, 116, 101], [97]), ([53, 50, 48], [83, 117, 109, 109, 97, 114, 121], [97]), ([55, 48, 48], [87, 105, 116, 104], [97, 100]), ([55, 49, 48], [87, 105, 116, 104], [97, 98]), ([56, 53, 54], [76, 105, 110, 107], [117])]
def labelOf (t : By) : By × By := match rows.find? (fun r => t == r.1) with
  | some r => r.2
  | none => if t.take 1 = [54] then ([83, 117, 98, 106, 101, 99, 116], [97, 120, 121, 122]) else ([], [])
def heading (fs : List Fl) : By := if title fs = [] then [117, 110, 116, 105, 116, 108, 101, 100] else title fs
def brief (fs : List Fl) : By := (if author fs = [] then [] else author fs ++ [58, 32]) ++ heading fs ++ (if year fs = 0 then [] else [32, 40] ++ itoa (year fs) ++ [41])
/-- The text of a field, with its label's name and codes. -/
def textOf (f : Fl) (nc : By × By) : By := if nc.1 = [83, 117, 98, 106, 101, 99, 116] then join (bys (allV f.subs nc.2)) [45, 45] else plain f.subs nc.2
def lineOf (f : Fl) : By := if (labelOf f.tag.data.toList).1 = [] then [] else if textOf f (labelOf f.tag.data.toList) = [] then [] else (labelOf f.tag.data.toList).1 ++ [58, 32] ++ textOf f (labelOf f.tag.data.toList)
def full (fs : List Fl) : List By := (fs.map lineOf).filter fun l => l != []
def publisher (fs : List Fl) : By := match fs.find? pubTag with
  | none => []
  | some f => plain f.subs [98]
def publParts (fs : List Fl) : List By := (if publisher fs = [] then [] else [publisher fs]) ++ (if year fs = 0 then [] else [itoa (year fs)])
def publ (fs : List Fl) : By := join (publParts fs) [44, 32]
def ended (s : By) : By := if s.getLast? = some 46 then s else s ++ [46]
def citeParts (fs : List Fl) : List By := (([author fs, heading fs, publ fs]).filter fun l => l != []).map ended
def cite (fs : List Fl) : By := join (citeParts fs) [32]
theorem rows_len : ∀ r ∈ rows, r.2.1.length ≤ 10 ∧ r.2.2.length ≤ 10 ∧ r.2.1 ≠ [] := by decide
theorem labelOf_len (t : By) : (labelOf t).1.length ≤ 10 ∧ (labelOf t).2.length ≤ 10 := by
  unfold labelOf
  split
  · rename_i r h
    have := rows_len r (List.mem_of_find?_eq_some h)
    exact ⟨this.1, this.2.1⟩
  · split
    · simp
    · simp

/-! ### bounds -/
theorem author_le {fs : List Fl} (h : ∀ f ∈ fs, Gd f) : (author fs).length ≤ 100000 := by
  have ht : ∀ t v, authorT fs t = some v → v.data.toList.length ≤ 100000 := by
    intro t v hv
    unfold authorT at hv
    rw [Option.bind_eq_some_iff] at hv
    obtain ⟨f, hf, hg⟩ := hv
    obtain ⟨x, hx, rfl⟩ := get_mem hg
    rw [← size_eq]
    exact ((h f (first_mem hf)).2 x hx).1
  unfold author
  repeat' split
  all_goals first | exact ht _ _ (by assumption) | simp
theorem title_le {fs : List Fl} (h : ∀ f ∈ fs, Gd f) : (title fs).length ≤ 400000000 := by
  unfold title
  split
  · simp
  · rename_i f hf
    have h1 := Tx.clean_len' (plain f.subs [97, 98])
    have h2 := (h f (first_mem hf)).plain_le [97, 98]
    omega
theorem heading_le {fs : List Fl} (h : ∀ f ∈ fs, Gd f) : (heading fs).length ≤ 400000000 := by
  have := title_le h
  unfold heading
  split
  · simp
  · exact this
theorem heading_ne (fs : List Fl) : heading fs ≠ [] := by
  unfold heading
  split
  · simp
  · assumption
theorem firstNZ_le (M : Nat) : ∀ (l : List Nat), (∀ x ∈ l, x ≤ M) → firstNZ l ≤ M
  | [], _ => by simp [firstNZ]
  | x :: r, h => by
    unfold firstNZ
    split
    · exact firstNZ_le M r (fun y hy => h y (by simp [hy]))
    · exact h x (by simp)
theorem yearF_le (l : List ByteArray) : yearF l ≤ 2199 := firstNZ_le _ _ fun x hx => by
  obtain ⟨y, _, rfl⟩ := List.mem_map.1 hx
  exact yr_le _ _ _
theorem year_le (fs : List Fl) : year fs ≤ 2199 := firstNZ_le _ _ fun x hx => by
  obtain ⟨f, _, rfl⟩ := List.mem_map.1 hx
  split
  · exact yearF_le _
  · omega
theorem itoa_year_le (n : Nat) (h : n ≤ 2199) : (itoa (n : Int)).length ≤ 4 := by rw [Nm.itoa_nat]; exact Nm.digits_len 3 n (by omega)
theorem publisher_le {fs : List Fl} (h : ∀ f ∈ fs, Gd f) : (publisher fs).length ≤ 200000000 := by
  unfold publisher
  split
  · simp
  · rename_i f hf
    exact (h f (List.mem_of_find?_eq_some hf)).plain_le _
theorem textOf_le {f : Fl} (h : Gd f) (nc : By × By) : (textOf f nc).length ≤ 200000000 := by
  unfold textOf
  split
  · exact h.join_le _ _ (by simp)
  · exact h.plain_le _
end Ds
end Go.Proofs.YtlinaeklhkfbcaaGreatDoor
