/- The kit's contracts of strings.Builder, laid at this translation by hand (the kit's own tool passes them over: a type is named in none of their bodies). -/
import Derived.Test.YtkahplbjbidemaaGreatDoorTxD
import Derived.Shelf.Strings.BuilderK
import Derived.Shelf.Strings.BuilderRune
namespace Go.Proofs.YtkahplbjbidemaaGreatDoor
open Go.Shelf Go.RowKit

def renB : Go.Shelf.Ren := ⟨fun
  | 166 => 41
  | 168 => 93 | 169 => 43 | 240 => 66 | 242 => 105 | 276 => 80 | 278 => 118 | n => n,
  fun | 0 => 0 | 3 => 3 | 4 => 4 | 5 => 5 | 9 => 9 | 20 => 20 | 21 => 21 | 37 => 66 | 46 => 61 | 51 => 86 | 70 => 65 | 72 => 68 | 75 => 71 | 76 => 72 | 80 => 75 | 164 => 101 | n => n, fun | n => n⟩
theorem layB166 : Go.Proofs.Lays.n166 Tryz.prog renB := by constructor <;> first | kernel_rfl | (intro w; kernel_rfl)
theorem layB168 : Go.Proofs.Lays.n168 Tryz.prog renB := by constructor <;> first | kernel_rfl | (intro w; kernel_rfl)
theorem extraB : Builder.Extra Tryz.prog renB where
  sizeBuilder := by kernel_rfl
  liesBuilder := by kernel_rfl
  t5 := by kernel_rfl
  a5 := fun w => by kernel_rfl
  z5 := fun w => by kernel_rfl
  v5 := fun w => by kernel_rfl
  infoByte := by kernel_rfl
  cellsByte := by kernel_rfl
  sizeByte := by kernel_rfl
  neB5 := by decide

/-- The builder holds these bytes. -/
abbrev BIs (B b : Nat) (l : List UInt8) (w : World) : Prop := Lib.IsBuilderF 68 5 B b (Lib.byteCells l) w
theorem bc_app (a b : List UInt8) : Lib.byteCells a ++ Lib.byteCells b = Lib.byteCells (a ++ b) := by unfold Lib.byteCells; rw [List.map_append]
theorem bc_len (a : List UInt8) : (Lib.byteCells a).length = a.length := by unfold Lib.byteCells; rw [List.length_map]
theorem WriteString_c (B b : Nat) (l : List UInt8) (s : ByteArray) (w : World) (h : BIs B b l w) (hlen : l.length + s.size ≤ 140737488355328) (hBw : B ≤ w.heap.size) :
    Calls Tryz.prog 41 #[.pointer (some ⟨b, 0, none⟩), .string s] w fun e w' => e = .returned (.tuple #[.int .i64 s.size, .nilIface]) ∧ BIs B b (l ++ s.data.toList) w' ∧ Below B w w' ∧ Lib.OthersKept 5 (some b) w w' :=
  Calls.mono (Any.Builder_WriteString_k layB166 extraB B b (Lib.byteCells l) s w h (by rw [bc_len]; exact hlen) hBw) fun e w' ⟨he, h1, h2, h3⟩ => ⟨he, .inr (by rw [← bc_app]; exact h1), h2, h3⟩
theorem WriteRune_c (B b : Nat) (l : List UInt8) (r : Nat) (hr : r ≤ 65535) (w : World) (h : BIs B b l w) (hlen : l.length + 4 ≤ 140737488355328) (hBw : B ≤ w.heap.size) :
    Calls Tryz.prog 93 #[.pointer (some ⟨b, 0, none⟩), .int .i32 r] w fun e w' => (∃ n, e = .returned (.tuple #[.int .i64 n, .nilIface])) ∧ BIs B b (l ++ Lib.encodeRune r) w' ∧ Below B w w' ∧ Lib.OthersKept 5 (some b) w w' :=
  Calls.mono (Any.Builder_WriteRune_k layB168 extraB B b (Lib.byteCells l) r (by omega) (by omega) w h (by rw [bc_len]; exact hlen) hBw) fun e w' ⟨he, h1, h2, h3⟩ => ⟨⟨_, he⟩, .inr (by rw [← bc_app, Lib.byteCells_encodeRune]; exact h1), h2, h3⟩
end Go.Proofs.YtkahplbjbidemaaGreatDoor
