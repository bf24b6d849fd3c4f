/- Layer 25: the chapter's examples as they lie in memory. -/
import Derived.Test.YtccbadbfijkaeaaGreatDoorAlB
namespace Go.Proofs.YtccbadbfijkaeaaGreatDoor
open Go.RowKit
set_option maxRecDepth 100000

abbrev CopiesS : Prop := ∀ (items : List Cp.It) (a : Option Addr) (c : Nat) (id : Int) (w : World) (_ : G w) (_ : Cp.ItA w a c items) (_ : items.length ≤ 1000000) (_ : ∀ x ∈ items, -9223372036854775808 ≤ x.branch ∧ x.branch ≤ 9223372036854775807) (_ : ∀ x ∈ items, x.call.size ≤ 100000),
    Calls Tryz.prog 20 #[.slice a items.length c, .int .i64 id] w fun e w' => ∃ va vc, e = .returned (.slice va ((Cp.copies items id).map Ds.mk).length vc) ∧ SLA w' va vc ((Cp.copies items id).map Ds.mk) ∧ Below w.heap.size w w'
theorem fld_nil (w : World) : Rc.FldA w none 0 [] := ⟨Nat.le_refl _, by unfold maxLen; omega, 0, 0, fun h => absurd rfl h, fun j f hf => by simp at hf⟩

theorem Al.keep {w w' : World} {g : Nat} {o c : Obj} (h : w.heap[g]? = some o) (hb : Below (w.alloc c).heap.size (w.alloc c) w') : w'.heap[g]? = some o :=
  Tx.blk_later ((hp_alloc (Array.getElem?_eq_some_iff.1 h).1 c).trans h) hb
theorem Al.fresh {w w' : World} {c : Obj} (hb : Below (w.alloc c).heap.size (w.alloc c) w') : w'.heap[w.heap.size]? = some c := Tx.blk_later (heap_alloc_new w c) hb
theorem Al.cells {w : World} {g : Nat} {cs : Array Value} {t : TypeId} (h : w.heap[g]? = some (.cells cs t (0, 0))) : (∀ o i, (w.alloc o).cell? ⟨g, i, none⟩ = cs[i]?) ∧ ∀ o i, (w.alloc o).frozen? ⟨g, i, none⟩ = false :=
  ⟨fun o i => (Tx.blk ((hp_alloc (Array.getElem?_eq_some_iff.1 h).1 o).trans h)).1 i, fun o i => (Tx.blk ((hp_alloc (Array.getElem?_eq_some_iff.1 h).1 o).trans h)).2.1 i⟩


theorem SLA.lit (w : World) (xs : List ByteArray) (h : xs.length ≤ 1000) : SLA (w.alloc (.cells (xs.map Value.string).toArray 9)) (some ⟨w.heap.size, 0, none⟩) xs.length xs := by
  refine ⟨Nat.le_refl _, by unfold maxLen; omega, w.heap.size, 0, fun _ => ⟨rfl, by simp⟩, fun j x hx => ?_⟩
  rw [Nat.zero_add, cell_of_row _ w.heap.size j _ 9 (0, 0) (heap_alloc_new w _), List.getElem?_toArray, List.getElem?_map, hx]
  rfl
namespace Al
def flat (xs : List (UInt8 × ByteArray)) : List Value := xs.flatMap fun x => [.int .u8 x.1.toNat, .string x.2]
theorem flat_get : ∀ (xs : List (UInt8 × ByteArray)) (j : Nat) (x : UInt8 × ByteArray), xs[j]? = some x → (flat xs)[j * 2]? = some (.int .u8 x.1.toNat) ∧ (flat xs)[j * 2 + 1]? = some (.string x.2)
  | [], j, x, h => by simp at h
  | y :: r, 0, x, h => by
    simp at h
    subst h
    exact ⟨rfl, rfl⟩
  | y :: r, j + 1, x, h => by
    have := flat_get r j x (by simpa using h)
    have e : flat (y :: r) = .int .u8 y.1.toNat :: .string y.2 :: flat r := rfl
    rw [e, show (j + 1) * 2 = j * 2 + 1 + 1 by omega]
    simpa using this
theorem sub_lit {w : World} {b : Nat} {xs : List (UInt8 × ByteArray)} {t : TypeId} (h : w.heap[b]? = some (.cells (flat xs).toArray t (0, 0))) (hl : xs.length ≤ 1000) : Rc.SubA w (some ⟨b, 0, none⟩) xs.length xs := by
  refine ⟨Nat.le_refl _, by unfold maxLen; omega, b, 0, fun _ => ⟨rfl, (Array.getElem?_eq_some_iff.1 h).1⟩, fun j x hx => ?_⟩
  have hf := flat_get xs j x hx
  rw [Nat.zero_add]
  exact ⟨(cell_of_row w b _ _ t (0, 0) h).trans (by rw [List.getElem?_toArray]; exact hf.1), (cell_of_row w b _ _ t (0, 0) h).trans (by rw [List.getElem?_toArray]; exact hf.2)⟩
theorem it_lit (w : World) : Cp.ItA (w.alloc (.cells #[.int .i64 1, .int .i64 1, .int .i64 2, .int .i64 0, .int .i64 0, .string ⟨#[88, 49]⟩, .int .i64 3, .int .i64 2, .int .i64 0, .int .i64 0, .int .i64 1, .int .i64 1, .int .i64 2, .int .i64 0, .int .i64 0, .string ⟨#[88, 49]⟩, .int .i64 2, .int .i64 2, .int .i64 0, .int .i64 0] 46)) (some ⟨w.heap.size, 0, none⟩) 2 [ix, iy] := by
  have h := cell_of_row (w.alloc (.cells #[.int .i64 1, .int .i64 1, .int .i64 2, .int .i64 0, .int .i64 0, .string ⟨#[88, 49]⟩, .int .i64 3, .int .i64 2, .int .i64 0, .int .i64 0, .int .i64 1, .int .i64 1, .int .i64 2, .int .i64 0, .int .i64 0, .string ⟨#[88, 49]⟩, .int .i64 2, .int .i64 2, .int .i64 0, .int .i64 0] 46)) w.heap.size
  have hb := heap_alloc_new w (.cells #[.int .i64 1, .int .i64 1, .int .i64 2, .int .i64 0, .int .i64 0, .string ⟨#[88, 49]⟩, .int .i64 3, .int .i64 2, .int .i64 0, .int .i64 0, .int .i64 1, .int .i64 1, .int .i64 2, .int .i64 0, .int .i64 0, .string ⟨#[88, 49]⟩, .int .i64 2, .int .i64 2, .int .i64 0, .int .i64 0] 46)
  refine ⟨Nat.le_refl _, by unfold maxLen; omega, w.heap.size, 0, fun _ => ⟨rfl, by simp⟩, fun j x hx => ?_⟩
  match j, hx with
  | 0, hx =>
    simp at hx
    subst hx
    exact ⟨(h _ _ _ _ hb).trans rfl, (h _ _ _ _ hb).trans rfl, (h _ _ _ _ hb).trans rfl, (h _ _ _ _ hb).trans rfl, (h _ _ _ _ hb).trans rfl, (h _ _ _ _ hb).trans rfl, (h _ _ _ _ hb).trans rfl, (h _ _ _ _ hb).trans rfl, (h _ _ _ _ hb).trans rfl, (h _ _ _ _ hb).trans rfl⟩
  | 1, hx =>
    simp at hx
    subst hx
    exact ⟨(h _ _ _ _ hb).trans rfl, (h _ _ _ _ hb).trans rfl, (h _ _ _ _ hb).trans rfl, (h _ _ _ _ hb).trans rfl, (h _ _ _ _ hb).trans rfl, (h _ _ _ _ hb).trans rfl, (h _ _ _ _ hb).trans rfl, (h _ _ _ _ hb).trans rfl, (h _ _ _ _ hb).trans rfl, (h _ _ _ _ hb).trans rfl⟩
  | j + 2, hx => simp at hx
theorem fld_lit {w : World} {g b1 b2 b3 b4 : Nat} (h : w.heap[g]? = some (.cells #[.string ⟨#[49, 48, 48]⟩, .string ⟨#[32, 32]⟩, .slice (some ⟨b1, 0, none⟩) 1 1, .int .i64 0, .string ⟨#[50, 52, 53]⟩, .string ⟨#[32, 32]⟩, .slice (some ⟨b2, 0, none⟩) 2 2, .int .i64 0, .string ⟨#[50, 54, 52]⟩, .string ⟨#[32, 32]⟩, .slice (some ⟨b3, 0, none⟩) 3 3, .int .i64 0, .string ⟨#[54, 53, 48]⟩, .string ⟨#[32, 32]⟩, .slice (some ⟨b4, 0, none⟩) 2 2, .int .i64 0] 42 (0, 0)))
    (s1 : w.heap[b1]? = some (.cells #[.int .u8 97, .string ⟨#[83, 109, 105, 116, 104, 44, 32, 65, 110, 110]⟩] 51 (0, 0))) (s2 : w.heap[b2]? = some (.cells #[.int .u8 97, .string ⟨#[68, 111, 103, 115, 32, 58]⟩, .int .u8 98, .string ⟨#[97, 32, 103, 117, 105, 100, 101]⟩] 51 (0, 0)))
    (s3 : w.heap[b3]? = some (.cells #[.int .u8 97, .string ⟨#[76, 111, 110, 100, 111, 110]⟩, .int .u8 98, .string ⟨#[80, 97, 103, 101]⟩, .int .u8 99, .string ⟨#[99, 49, 57, 57, 56]⟩] 51 (0, 0))) (s4 : w.heap[b4]? = some (.cells #[.int .u8 97, .string ⟨#[68, 111, 103, 115]⟩, .int .u8 120, .string ⟨#[72, 105, 115, 116, 111, 114, 121]⟩] 51 (0, 0))) : Rc.FldA w (some ⟨g, 0, none⟩) 4 fs := by
  have hc := fun i => cell_of_row w g i _ _ _ h
  refine ⟨Nat.le_refl _, by unfold maxLen; omega, g, 0, fun _ => ⟨rfl, (Array.getElem?_eq_some_iff.1 h).1⟩, fun j f hf => ?_⟩
  match j, hf with
  | 0, hf =>
    obtain rfl : f1 = f := by simpa [fs] using hf
    exact ⟨(hc _).trans rfl, (hc _).trans rfl, ⟨_, _, (hc _).trans rfl, sub_lit (xs := f1.subs) s1 (by simp [f1])⟩, (hc _).trans rfl⟩
  | 1, hf =>
    obtain rfl : f2 = f := by simpa [fs] using hf
    exact ⟨(hc _).trans rfl, (hc _).trans rfl, ⟨_, _, (hc _).trans rfl, sub_lit (xs := f2.subs) s2 (by simp [f2])⟩, (hc _).trans rfl⟩
  | 2, hf =>
    obtain rfl : f3 = f := by simpa [fs] using hf
    exact ⟨(hc _).trans rfl, (hc _).trans rfl, ⟨_, _, (hc _).trans rfl, sub_lit (xs := f3.subs) s3 (by simp [f3])⟩, (hc _).trans rfl⟩
  | 3, hf =>
    obtain rfl : f4 = f := by simpa [fs] using hf
    exact ⟨(hc _).trans rfl, (hc _).trans rfl, ⟨_, _, (hc _).trans rfl, sub_lit (xs := f4.subs) s4 (by simp [f4])⟩, (hc _).trans rfl⟩
  | j + 4, hf => simp [fs] at hf
/-- All that lies when the record and the items have been laid. -/
theorem lay {w w6 : World} {R b1 b2 b3 b4 : Nat} (k6 : w6.heap[R]? = some (.cells #[.int .i64 1, .int .i64 3, .int .i64 1, .string ⟨#[101, 110, 103]⟩, .slice none 0 0] 24 (0, 0))) (hB : Below w.heap.size w w6) (hR : w.heap.size ≤ R)
    (s1 : w6.heap[b1]? = some (.cells #[.int .u8 97, .string ⟨#[83, 109, 105, 116, 104, 44, 32, 65, 110, 110]⟩] 51 (0, 0))) (s2 : w6.heap[b2]? = some (.cells #[.int .u8 97, .string ⟨#[68, 111, 103, 115, 32, 58]⟩, .int .u8 98, .string ⟨#[97, 32, 103, 117, 105, 100, 101]⟩] 51 (0, 0)))
    (s3 : w6.heap[b3]? = some (.cells #[.int .u8 97, .string ⟨#[76, 111, 110, 100, 111, 110]⟩, .int .u8 98, .string ⟨#[80, 97, 103, 101]⟩, .int .u8 99, .string ⟨#[99, 49, 57, 57, 56]⟩] 51 (0, 0))) (s4 : w6.heap[b4]? = some (.cells #[.int .u8 97, .string ⟨#[68, 111, 103, 115]⟩, .int .u8 120, .string ⟨#[72, 105, 115, 116, 111, 114, 121]⟩] 51 (0, 0))) {V : World}
    (hV : ((((w6.setCell ⟨R, 4, none⟩ (.slice (some ⟨w6.heap.size, 0, none⟩) 4 4)).alloc (.cells #[.string ⟨#[49, 48, 48]⟩, .string ⟨#[32, 32]⟩, .slice (some ⟨b1, 0, none⟩) 1 1, .int .i64 0, .string ⟨#[50, 52, 53]⟩, .string ⟨#[32, 32]⟩, .slice (some ⟨b2, 0, none⟩) 2 2, .int .i64 0, .string ⟨#[50, 54, 52]⟩, .string ⟨#[32, 32]⟩, .slice (some ⟨b3, 0, none⟩) 3 3, .int .i64 0, .string ⟨#[54, 53, 48]⟩, .string ⟨#[32, 32]⟩, .slice (some ⟨b4, 0, none⟩) 2 2, .int .i64 0] 42)).alloc (.cells #[.int .i64 1, .int .i64 1, .int .i64 2, .int .i64 0, .int .i64 0, .string ⟨#[88, 49]⟩, .int .i64 3, .int .i64 2, .int .i64 0, .int .i64 0] 46)).alloc (.cells #[.int .i64 1, .int .i64 1, .int .i64 2, .int .i64 0, .int .i64 0, .string ⟨#[88, 49]⟩, .int .i64 2, .int .i64 2, .int .i64 0, .int .i64 0] 46)) = V) : Rc.FldA V (some ⟨w6.heap.size, 0, none⟩) 4 fs ∧ V.heap[R]? = some (.cells #[.int .i64 1, .int .i64 3, .int .i64 1, .string ⟨#[101, 110, 103]⟩, .slice (some ⟨w6.heap.size, 0, none⟩) 4 4] 24 (0, 0)) ∧ V.heap[w6.heap.size + 1]? = some (.cells #[.int .i64 1, .int .i64 1, .int .i64 2, .int .i64 0, .int .i64 0, .string ⟨#[88, 49]⟩, .int .i64 3, .int .i64 2, .int .i64 0, .int .i64 0] 46 (0, 0)) ∧ V.heap[w6.heap.size + 1 + 1]? = some (.cells #[.int .i64 1, .int .i64 1, .int .i64 2, .int .i64 0, .int .i64 0, .string ⟨#[88, 49]⟩, .int .i64 2, .int .i64 2, .int .i64 0, .int .i64 0] 46 (0, 0)) ∧ Below w.heap.size w V := by
  subst hV
  obtain ⟨S, hS⟩ : ∃ S, w6.setCell ⟨R, 4, none⟩ (.slice (some ⟨w6.heap.size, 0, none⟩) 4 4) = S := ⟨_, rfl⟩
  have hsz : S.heap.size = w6.heap.size := by rw [← hS]; simp [World.setCell]
  have hRl := (Array.getElem?_eq_some_iff.1 k6).1
  have hne : ∀ (b : Nat) (cs : Array Value), w6.heap[b]? = some (.cells cs 51 (0, 0)) → S.heap[b]? = w6.heap[b]? := fun b cs h => by
    rw [← hS]
    refine hp_set_ne (fun e => ?_) _ _
    rw [e, k6] at h
    injection h with h
    injection h with _ h2 _
    exact absurd h2 (by decide)
  have hkR : S.heap[R]? = some (.cells #[.int .i64 1, .int .i64 3, .int .i64 1, .string ⟨#[101, 110, 103]⟩, .slice (some ⟨w6.heap.size, 0, none⟩) 4 4] 24 (0, 0)) := by rw [← hS]; simpa using hp_set_same k6 4 (.slice (some ⟨w6.heap.size, 0, none⟩) 4 4)
  have hBS : Below w.heap.size w S := by rw [← hS]; exact hB.setCell hR _
  rw [hS]
  have up : ∀ (b : Nat) (o : Obj), S.heap[b]? = some o → (((S.alloc (.cells #[.string ⟨#[49, 48, 48]⟩, .string ⟨#[32, 32]⟩, .slice (some ⟨b1, 0, none⟩) 1 1, .int .i64 0, .string ⟨#[50, 52, 53]⟩, .string ⟨#[32, 32]⟩, .slice (some ⟨b2, 0, none⟩) 2 2, .int .i64 0, .string ⟨#[50, 54, 52]⟩, .string ⟨#[32, 32]⟩, .slice (some ⟨b3, 0, none⟩) 3 3, .int .i64 0, .string ⟨#[54, 53, 48]⟩, .string ⟨#[32, 32]⟩, .slice (some ⟨b4, 0, none⟩) 2 2, .int .i64 0] 42)).alloc (.cells #[.int .i64 1, .int .i64 1, .int .i64 2, .int .i64 0, .int .i64 0, .string ⟨#[88, 49]⟩, .int .i64 3, .int .i64 2, .int .i64 0, .int .i64 0] 46)).alloc (.cells #[.int .i64 1, .int .i64 1, .int .i64 2, .int .i64 0, .int .i64 0, .string ⟨#[88, 49]⟩, .int .i64 2, .int .i64 2, .int .i64 0, .int .i64 0] 46)).heap[b]? = some o := fun b o h => by
    have hl := (Array.getElem?_eq_some_iff.1 h).1
    exact (hp_alloc (by simp; omega) _).trans ((hp_alloc (by simp; omega) _).trans ((hp_alloc hl _).trans h))
  refine ⟨fld_lit (g := w6.heap.size) ?_ (up b1 _ ((hne b1 _ s1).trans s1)) (up b2 _ ((hne b2 _ s2).trans s2)) (up b3 _ ((hne b3 _ s3).trans s3)) (up b4 _ ((hne b4 _ s4).trans s4)), up R _ hkR, ?_, ?_, ?_⟩
  · rw [← hsz]
    exact (hp_alloc (by simp; omega) _).trans ((hp_alloc (by simp) _).trans (heap_alloc_new S _))
  · have e : w6.heap.size + 1 = (S.alloc (.cells #[.string ⟨#[49, 48, 48]⟩, .string ⟨#[32, 32]⟩, .slice (some ⟨b1, 0, none⟩) 1 1, .int .i64 0, .string ⟨#[50, 52, 53]⟩, .string ⟨#[32, 32]⟩, .slice (some ⟨b2, 0, none⟩) 2 2, .int .i64 0, .string ⟨#[50, 54, 52]⟩, .string ⟨#[32, 32]⟩, .slice (some ⟨b3, 0, none⟩) 3 3, .int .i64 0, .string ⟨#[54, 53, 48]⟩, .string ⟨#[32, 32]⟩, .slice (some ⟨b4, 0, none⟩) 2 2, .int .i64 0] 42)).heap.size := by simp [hsz]
    rw [e]
    exact (hp_alloc (by simp) _).trans (heap_alloc_new _ _)
  · have e : w6.heap.size + 1 + 1 = ((S.alloc (.cells #[.string ⟨#[49, 48, 48]⟩, .string ⟨#[32, 32]⟩, .slice (some ⟨b1, 0, none⟩) 1 1, .int .i64 0, .string ⟨#[50, 52, 53]⟩, .string ⟨#[32, 32]⟩, .slice (some ⟨b2, 0, none⟩) 2 2, .int .i64 0, .string ⟨#[50, 54, 52]⟩, .string ⟨#[32, 32]⟩, .slice (some ⟨b3, 0, none⟩) 3 3, .int .i64 0, .string ⟨#[54, 53, 48]⟩, .string ⟨#[32, 32]⟩, .slice (some ⟨b4, 0, none⟩) 2 2, .int .i64 0] 42)).alloc (.cells #[.int .i64 1, .int .i64 1, .int .i64 2, .int .i64 0, .int .i64 0, .string ⟨#[88, 49]⟩, .int .i64 3, .int .i64 2, .int .i64 0, .int .i64 0] 46)).heap.size := by simp [hsz]
    rw [e]
    exact heap_alloc_new _ _
  · have h1 := hBS.alloc hBS.size (.cells #[.string ⟨#[49, 48, 48]⟩, .string ⟨#[32, 32]⟩, .slice (some ⟨b1, 0, none⟩) 1 1, .int .i64 0, .string ⟨#[50, 52, 53]⟩, .string ⟨#[32, 32]⟩, .slice (some ⟨b2, 0, none⟩) 2 2, .int .i64 0, .string ⟨#[50, 54, 52]⟩, .string ⟨#[32, 32]⟩, .slice (some ⟨b3, 0, none⟩) 3 3, .int .i64 0, .string ⟨#[54, 53, 48]⟩, .string ⟨#[32, 32]⟩, .slice (some ⟨b4, 0, none⟩) 2 2, .int .i64 0] 42)
    have h2 := h1.alloc h1.size (.cells #[.int .i64 1, .int .i64 1, .int .i64 2, .int .i64 0, .int .i64 0, .string ⟨#[88, 49]⟩, .int .i64 3, .int .i64 2, .int .i64 0, .int .i64 0] 46)
    exact h2.alloc h2.size _
end Al

end Go.Proofs.YtccbadbfijkaeaaGreatDoor
