/- Plain: the pairs counted, and who is found for whom. -/
import Derived.Test.YtogpghpgnpoioaaGreatDoorKs
namespace Go.Proofs.YtogpghpgnpoioaaGreatDoor
set_option maxRecDepth 100000

namespace Mt
open Rc
/-- Whether two records are a pair, in this order. -/
def pairB (m : Rule) (a b : Rd) : Bool := decide (a.id < b.id) && decide (m.need ≤ score m a b)
def cntI (m : Rule) (l : List Rd) (x : Rd) (k : Nat) : Nat := ((l.take k).filter (pairB m x)).length
def cntO (m : Rule) (l : List Rd) (i : Nat) : Nat := ((l.take i).map fun a => (l.filter (pairB m a)).length).sum
theorem cntI_succ (m : Rule) {l : List Rd} (x : Rd) {k : Nat} {y : Rd} (h : l[k]? = some y) : cntI m l x (k + 1) = cntI m l x k + (pairB m x y).toNat := by
  unfold cntI
  rw [List.take_add_one, h, List.filter_append, List.length_append]
  cases hb : pairB m x y <;> simp [hb]
theorem cntI_le (m : Rule) (l : List Rd) (x : Rd) (k : Nat) : cntI m l x k ≤ l.length :=
  Nat.le_trans (List.length_filter_le _ _) (by rw [List.length_take]; omega)
theorem cntI_all (m : Rule) (l : List Rd) (x : Rd) : cntI m l x l.length = (l.filter (pairB m x)).length := by unfold cntI; rw [List.take_length]
theorem cntO_succ (m : Rule) {l : List Rd} {i : Nat} {x : Rd} (h : l[i]? = some x) : cntO m l (i + 1) = cntO m l i + cntI m l x l.length := by
  rw [cntI_all]
  unfold cntO
  rw [List.take_add_one, h, List.map_append, List.sum_append]
  simp
theorem cntO_le (m : Rule) (l : List Rd) : ∀ i, i ≤ l.length → cntO m l i ≤ i * l.length
  | 0, _ => by simp [cntO]
  | i + 1, h => by
    have hi : i < l.length := by omega
    rw [cntO_succ m (List.getElem?_eq_getElem hi), Nat.succ_mul]
    have h1 := cntO_le m l i (by omega)
    have h2 := cntI_le m l l[i] l.length
    omega
theorem hitsP_len (m : Rule) (l : List Rd) : (hitsP m l).length = cntO m l l.length := by
  unfold hitsP cntO
  rw [List.length_flatMap, List.take_length]
  congr 1
  refine List.map_congr_left fun a _ => ?_
  rw [List.length_map]
  rfl
theorem hitsP_nodup (m : Rule) {l : List Rd} (hn : (ids l).Nodup) : (hitsP m l).Nodup := by
  unfold hitsP
  rw [List.Nodup, List.pairwise_flatMap]
  have hl : l.Pairwise fun a b => a.id ≠ b.id := List.pairwise_map.1 hn
  constructor
  · intro a _
    refine List.pairwise_map.2 ((hl.sublist List.filter_sublist).imp fun h e => ?_)
    injection e with _ e
    exact h e
  · refine hl.imp fun h z hz z' hz' e => ?_
    obtain ⟨b, _, rfl⟩ := List.mem_map.1 hz
    obtain ⟨b', _, rfl⟩ := List.mem_map.1 hz'
    injection e with e _
    exact h e
theorem pairs_len (m : Rule) {l : List Rd} (hn : (ids l).Nodup) : (pairs m l).length = cntO m l l.length := by
  rw [← hitsP_len]
  refine ((List.perm_ext_iff_of_nodup ?_ (hitsP_nodup m hn)).2 fun z => Cp.puts_mem _ _ _).length_eq
  refine (Cp.puts_asc ordP _).imp fun h e => ?_
  subst e
  unfold ltP at h
  simp at h
theorem find_mem (m : Rule) {l : List Rd} (hn : (ids l).Nodup) {y : Rd} (hy : y ∈ l) (x : Rd) (hne : y.id ≠ x.id) : decide (y.id ∈ find m l x) = decide (m.need ≤ score m y x) := by
  rw [decide_eq_decide]
  unfold find
  rw [List.mem_map]
  constructor
  · rintro ⟨p, hp, e⟩
    rw [Cp.puts_mem] at hp
    unfold hitsF at hp
    obtain ⟨z, hz, rfl⟩ := List.mem_map.1 hp
    obtain ⟨hz1, hz2⟩ := List.mem_filter.1 hz
    simp only [Bool.and_eq_true, decide_eq_true_eq] at hz2
    obtain ⟨i, hi, ei⟩ := List.getElem_of_mem hz1
    obtain ⟨j, hj, ej⟩ := List.getElem_of_mem hy
    have gi : l[i]? = some z := by rw [← ei]; exact List.getElem?_eq_getElem hi
    have gj : l[j]? = some y := by rw [← ej]; exact List.getElem?_eq_getElem hj
    by_cases hij : i = j
    · subst hij
      rw [gi] at gj
      injection gj with gj
      rw [← gj]
      exact hz2.2
    · exact absurd e (ids_ne hn gi gj hij)
  · intro h
    refine ⟨(y.id, score m y x), ?_, rfl⟩
    rw [Cp.puts_mem]
    refine List.mem_map.2 ⟨y, List.mem_filter.2 ⟨hy, ?_⟩, rfl⟩
    simp [h, hne]
end Mt
end Go.Proofs.YtogpghpgnpoioaaGreatDoor
