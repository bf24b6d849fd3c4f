/- Blocks, cells and joined texts: small facts that many walks use. -/
import Derived.Test.YtkahplbjbidemaaGreatDoorSl
namespace Go.Proofs.YtkahplbjbidemaaGreatDoor
open Go.RowKit

theorem Tx.bcell {B : Nat} {W w1 : World} (hb : Below B W w1) : ∀ b o, b < B → w1.cell? ⟨b, o, none⟩ = W.cell? ⟨b, o, none⟩ := fun b o h => hb.cell (p := ⟨b, o, none⟩) h
/-- What a chain of concatenations gives, one fact a '+'. -/
def Tx.Adds (P : Program) : ByteArray → List ByteArray → Prop
  | _, [] => True
  | a, b :: l => (∀ W, (Op.stringOp .add a b).run P W = .ok (.string (a ++ b)) W) ∧ Tx.Adds P (a ++ b) l
theorem Tx.adds_ok (P : Program) : ∀ (l : List ByteArray) (a : ByteArray), a.size + (l.map (·.size)).sum ≤ 9223372036854775807 → Tx.Adds P a l
  | [], _, _ => trivial
  | b :: l, a, h => by
    rw [List.map_cons, List.sum_cons] at h
    exact ⟨fun W => run_string_add_sum W a b (by omega), Tx.adds_ok P l (a ++ b) (by rw [ByteArray.size_append]; omega)⟩
theorem Tx.size_mk (l : List UInt8) : (⟨l.toArray⟩ : ByteArray).size = l.length := by simp [ByteArray.size]
theorem Tx.step {W wi w1 : World} (h : Below W.heap.size W wi) (hb : Below wi.heap.size wi w1) : Below W.heap.size W w1 := h.trans (hb.mono h.size)
theorem Tx.blk {w : World} {g : Nat} {cs : Array Value} {t : TypeId} (h : w.heap[g]? = some (.cells cs t (0, 0))) : (∀ i, w.cell? ⟨g, i, none⟩ = cs[i]?) ∧ (∀ i, w.frozen? ⟨g, i, none⟩ = false) ∧ g < w.heap.size :=
  ⟨fun i => cell_of_row w g i cs t (0, 0) h, fun i => by simp [World.frozen?, h], (Array.getElem?_eq_some_iff.1 h).1⟩
theorem Tx.later {g : Nat} {w w' : World} (hb : Below w.heap.size w w') (h : g < w.heap.size) : (∀ i, w'.cell? ⟨g, i, none⟩ = w.cell? ⟨g, i, none⟩) ∧ (∀ i, w'.frozen? ⟨g, i, none⟩ = w.frozen? ⟨g, i, none⟩) :=
  ⟨fun i => hb.cell (p := ⟨g, i, none⟩) h, fun i => hb.frozen (p := ⟨g, i, none⟩) h⟩
theorem Tx.blk_later {w w' : World} {g : Nat} {o : Obj} (h : w.heap[g]? = some o) (hb : Below w.heap.size w w') : w'.heap[g]? = some o := (hb.block g (Array.getElem?_eq_some_iff.1 h).1).trans h
theorem Tx.set4 {B g : Nat} {w wr : World} (h : Below B w wr) (hg : B ≤ g) (v0 v1 v2 v3 : Value) :
    Below B w ((((wr.setCell ⟨g, 0, none⟩ v0).setCell ⟨g, 1, none⟩ v1).setCell ⟨g, 2, none⟩ v2).setCell ⟨g, 3, none⟩ v3) :=
  (((h.setCell hg _).setCell hg _).setCell hg _).setCell hg _
theorem Tx.newd (w : World) (o : Obj) : Below w.heap.size w (w.alloc o).drew := ((Below.refl _ _).alloc (Nat.le_refl _) _).drew
theorem Tx.newcell (w : World) (cs : Array Value) (t : TypeId) (i : Nat) : (w.alloc (.cells cs t)).drew.cell? ⟨w.heap.size, i, none⟩ = cs[i]? := cell_of_row _ _ i cs t (0, 0) (heap_alloc_new w _)
end Go.Proofs.YtkahplbjbidemaaGreatDoor
