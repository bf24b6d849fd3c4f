/- The program's Wrap: what the call returns. -/
import Derived.Test.YtccbadbfijkaeaaGreatDoorWrD
namespace Go.Proofs.YtccbadbfijkaeaaGreatDoor
open Go.RowKit
set_option maxRecDepth 100000

namespace Wr
open Rc
abbrev mk (l : By) : ByteArray := ⟨l.toArray⟩
theorem wstep_len (n : Nat) (st : List By × By) (p : By) : (wstep n st p).1.length ≤ st.1.length + 1 ∧ (wstep n st p).2.length ≤ st.2.length + 1 + p.length := by
  unfold wstep
  split
  · simp only; omega
  · split
    · simp only [List.length_append, List.length_cons, List.length_nil]; omega
    · simp only [List.length_append, List.length_cons, List.length_nil]; omega
theorem fold_len (n : Nat) : ∀ (ps : List By) (st : List By × By), (ps.foldl (wstep n) st).1.length ≤ st.1.length + ps.length ∧ (ps.foldl (wstep n) st).2.length ≤ st.2.length + ps.length + ps.flatten.length
  | [], st => by simp
  | p :: ps, st => by
    have h1 := wstep_len n st p
    have h2 := fold_len n ps (wstep n st p)
    rw [List.foldl_cons, List.flatten_cons, List.length_append, List.length_cons]
    omega
theorem count_le : ∀ (ps : List By), (∀ p ∈ ps, p ≠ []) → ps.length ≤ ps.flatten.length
  | [], _ => by simp
  | p :: ps, h => by
    have h1 := count_le ps (fun q hq => h q (by simp [hq]))
    have h2 := List.length_pos_iff.2 (h p (by simp))
    rw [List.flatten_cons, List.length_append, List.length_cons]
    omega
theorem solid_le (l : By) : (solid l).length ≤ l.length := List.length_filter_le _ _
theorem solid_flat {n : Nat} : ∀ (ps : List By), (∀ p ∈ ps, Pc n p) → solid ps.flatten = ps.flatten
  | [], _ => rfl
  | p :: ps, h => by rw [List.flatten_cons, solid_app, (h p (by simp)).s, solid_flat ps (fun q hq => h q (by simp [hq]))]
/-- What is known of the state when some of the pieces of a text have been laid. -/
structure Mid (n : Nat) (s : By) (st : List By × By) : Prop where
  o : st.1.length ≤ s.length
  l : st.2.length ≤ 2 * s.length
  g : St n st
theorem mid_of {n : Nat} (hn : 1 ≤ n) {s : By} (hv : Tx.valid s = true) {ps rest : List By} (h : wordsR n [] s = ps ++ rest) : Mid n s (ps.foldl (wstep n) ([], [])) ∧ ∀ p ∈ ps ++ rest, Pc n p := by
  have hw := wordsR_good hn s [] (by simpa using hv) rfl
  rw [h] at hw
  have hp : ∀ p ∈ ps, Pc n p := fun p hp => hw.1 p (by simp [hp])
  have h1 := fold_len n ps ([], [])
  have h2 := count_le ps (fun p hq => (hp p hq).ne)
  have h3 := congrArg List.length hw.2
  rw [solid_flat _ hw.1, List.flatten_append, List.length_append, List.nil_append] at h3
  have h4 := solid_le s
  have h5 := fold_good ps ([], []) ⟨fun l hl => (by cases hl), .inl rfl⟩ hp
  simp only [List.length_nil, Nat.zero_add] at h1
  exact ⟨⟨by omega, by omega, h5.1⟩, hw.1⟩
theorem wrap_eq {n : Int} (hn : ¬ n < 1) {s : By} {st : List By × By} (h : (wordsR n.toNat [] s).foldl (wstep n.toNat) ([], []) = st) : wrap n s = st.1 ++ (if st.2 = [] then [] else [st.2]) := by
  unfold wrap wfin
  rw [if_neg hn, h]
/-- The words of a text, and the pieces of the first ones. -/
theorem flat_take {n : Nat} {ws : List By} {k : Nat} {x : By} (h : ws[k]? = some x) : (ws.take (k + 1)).flatMap (pieces n) = (ws.take k).flatMap (pieces n) ++ pieces n x := by
  rw [List.take_add_one, h]
  simp
theorem flat_rest (n : Nat) (ws : List By) (k : Nat) : ws.flatMap (pieces n) = (ws.take k).flatMap (pieces n) ++ (ws.drop k).flatMap (pieces n) := by
  rw [← List.flatMap_append, List.take_append_drop]
theorem drop_at {α : Type} {l : List α} {k : Nat} {x : α} (h : l[k]? = some x) : l.drop k = x :: l.drop (k + 1) := by
  have hk : k < l.length := (List.getElem?_eq_some_iff.1 h).1
  rw [List.drop_eq_getElem_cons hk, (List.getElem?_eq_some_iff.1 h).2]
theorem take_at {α : Type} {l : List α} {k : Nat} {x : α} (h : l[k]? = some x) : l.take (k + 1) = l.take k ++ [x] := by
  rw [List.take_add_one, h]; rfl
end Wr

theorem Split_c (s : ByteArray) (w : World) (hs : s.size ≤ 1000000) (hG : G w) :
    Calls Tryz.prog 53 #[.string s, .string ⟨#[32]⟩] w fun e w' => ∃ va vc xs, e = .returned (.slice va xs.length vc) ∧ SLA w' va vc xs ∧ xs = Lib.splitB ⟨#[32]⟩ 0 (Lib.countB s ⟨#[32]⟩) s ∧ xs.length ≤ 1000002 ∧ Below w.heap.size w w' := by
  obtain ⟨m, hm⟩ := hG.m
  refine (Tryz.strings_Split s ⟨#[32]⟩ m w (by omega) hm (by simp [ByteArray.size])).mono fun e w' ⟨he, hw⟩ => ?_
  subst hw
  have hlen := Lib.splitB_all (⟨#[32]⟩ : ByteArray) (by simp [ByteArray.size]) 0 _ s rfl
  have hcl := Lib.count_le s.data.toList [32]
  have hc2 : Lib.countB s ⟨#[32]⟩ ≤ s.size + 1 := by rw [Lib.size_eq]; exact hcl
  refine ⟨some ⟨w.heap.size, 0, none⟩, Lib.countB s ⟨#[32]⟩ + 1, _, by rw [hlen]; exact he, ⟨by rw [hlen]; exact Nat.le_refl _, by unfold maxLen; omega, w.heap.size, 0, fun _ => ⟨rfl, by simp⟩, fun j x hx => ?_⟩, rfl, by rw [hlen]; omega, Tx.newb _ _⟩
  rw [Nat.zero_add, cell_of_row _ w.heap.size j _ 9 (0, 0) (heap_alloc_new w _), List.getElem?_toArray, List.getElem?_map, hx]
  rfl
end Go.Proofs.YtccbadbfijkaeaaGreatDoor
