/- A field by value that came in, opened. -/
import Derived.Test.YtlinaeklhkfbcaaGreatDoorCdR14
namespace Go.Proofs.YtlinaeklhkfbcaaGreatDoor
open Go.ChangeShapes Go.WideShapes Go.ChangeAt Go.RowKit Go.Deep
set_option maxRecDepth 100000

section
variable {H : Type} {enc : TypeId × Value → H} {W : World} {base : Nat} {sp : Nat → Bool} {hd : Bool}
/-- A field by value, opened. -/
theorem open_flv {r : Reach} {b0 : Nat} {v : Value} {d : DataW H} {ps : List MemPlace} (hv : Value.okWide Tryz.prog W r b0 24 v) (h : DataW.Trod enc Tryz.prog W base sp hd 24 v d ps) :
    ∃ (f : Rc.Fl) (a : Option Addr) (c : Nat), v = .agg #[.string f.tag, .string f.ind, .slice a f.subs.length c, .int .i64 f.auth] ∧ Rc.SubA W a c f.subs := by
  obtain ⟨fuel, hf⟩ := h
  obtain ⟨cs, rfl, _⟩ := okWide_struct Tryz.underlying24 hv
  obtain ⟨f, a, c, e, hF⟩ := open_field hf
  refine ⟨f, a, c, ?_, hF⟩
  simp [Value.cells] at e
  rw [← Array.toArray_toList (xs := cs), e]
end
end Go.Proofs.YtlinaeklhkfbcaaGreatDoor
