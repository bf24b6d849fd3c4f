/- Plain: the chapter's examples, worked out; no program stands in this file. -/
import Derived.Test.YtccbadbfijkaeaaGreatDoorDsA
import Derived.Test.YtccbadbfijkaeaaGreatDoorNmA
namespace Go.Proofs.YtccbadbfijkaeaaGreatDoor
set_option maxRecDepth 100000
namespace Al
open Rc
def bb (l : By) : ByteArray := ⟨l.toArray⟩
def f1 : Fl := ⟨bb [49, 48, 48], bb [32, 32], [(97, bb [83, 109, 105, 116, 104, 44, 32, 65, 110, 110])], 0⟩
def f2 : Fl := ⟨bb [50, 52, 53], bb [32, 32], [(97, bb [68, 111, 103, 115, 32, 58]), (98, bb [97, 32, 103, 117, 105, 100, 101])], 0⟩
def f3 : Fl := ⟨bb [50, 54, 52], bb [32, 32], [(97, bb [76, 111, 110, 100, 111, 110]), (98, bb [80, 97, 103, 101]), (99, bb [99, 49, 57, 57, 56])], 0⟩
def f4 : Fl := ⟨bb [54, 53, 48], bb [32, 32], [(97, bb [68, 111, 103, 115]), (120, bb [72, 105, 115, 116, 111, 114, 121])], 0⟩
def fs : List Fl := [f1, f2, f3, f4]
def ix : Cp.It := ⟨1, 1, 2, 0, 0, bb [88, 49], 3, 2, 0, 0⟩
def iy : Cp.It := ⟨1, 1, 2, 0, 0, bb [88, 49], 2, 2, 0, 0⟩
theorem itoa1 : Lib.itoa 1 = [49] := by
  rw [show (1 : Int) = ((1 : Nat) : Int) from rfl, Nm.itoa_nat, Nm.digits_small (by omega)]
  rfl
theorem itoa2 : Lib.itoa 2 = [50] := by
  rw [show (2 : Int) = ((2 : Nat) : Int) from rfl, Nm.itoa_nat, Nm.digits_small (by omega)]
  rfl
theorem itoa1998 : Lib.itoa 1998 = [49, 57, 57, 56] := by
  rw [show (1998 : Int) = ((1998 : Nat) : Int) from rfl, Nm.itoa_nat, Nm.digits_big (by omega), Nm.digits_big (by omega), Nm.digits_big (by omega), Nm.digits_small (by omega)]
  rfl
theorem year_fs : year fs = 1998 := by decide
theorem author_fs : author fs = [83, 109, 105, 116, 104, 44, 32, 65, 110, 110] := by decide
theorem title_fs : title fs = [68, 111, 103, 115, 32, 58, 32, 97, 32, 103, 117, 105, 100, 101] := by decide
theorem heading_fs : Ds.heading fs = [68, 111, 103, 115, 32, 58, 32, 97, 32, 103, 117, 105, 100, 101] := by unfold Ds.heading; rw [title_fs]; rfl
theorem brief_fs : Ds.brief fs = [83, 109, 105, 116, 104, 44, 32, 65, 110, 110, 58, 32, 68, 111, 103, 115, 32, 58, 32, 97, 32, 103, 117, 105, 100, 101, 32, 40, 49, 57, 57, 56, 41] := by
  unfold Ds.brief
  rw [heading_fs, author_fs, year_fs, show ((1998 : Nat) : Int) = 1998 from rfl, itoa1998]
  rfl
theorem full_fs : Ds.full fs = [[65, 117, 116, 104, 111, 114, 58, 32, 83, 109, 105, 116, 104, 44, 32, 65, 110, 110], [84, 105, 116, 108, 101, 58, 32, 68, 111, 103, 115, 32, 58, 32, 97, 32, 103, 117, 105, 100, 101], [80, 117, 98, 108, 105, 115, 104, 101, 100, 58, 32, 76, 111, 110, 100, 111, 110, 32, 80, 97, 103, 101, 32, 99, 49, 57, 57, 56], [83, 117, 98, 106, 101, 99, 116, 58, 32, 68, 111, 103, 115, 45, 45, 72, 105, 115, 116, 111, 114, 121]] := by decide
theorem publ_fs : Ds.publ fs = [80, 97, 103, 101, 44, 32, 49, 57, 57, 56] := by
  have hp : Ds.publisher fs = [80, 97, 103, 101] := by decide
  unfold Ds.publ Ds.publParts
  rw [hp, year_fs, show ((1998 : Nat) : Int) = 1998 from rfl, itoa1998]
  rfl
theorem cite_fs : Ds.cite fs = [83, 109, 105, 116, 104, 44, 32, 65, 110, 110, 46, 32, 68, 111, 103, 115, 32, 58, 32, 97, 32, 103, 117, 105, 100, 101, 46, 32, 80, 97, 103, 101, 44, 32, 49, 57, 57, 56, 46] := by
  unfold Ds.cite Ds.citeParts
  rw [heading_fs, author_fs, publ_fs]
  rfl
theorem brief_nil : Ds.brief [] = [117, 110, 116, 105, 116, 108, 101, 100] := by decide
theorem cite_nil : Ds.cite [] = [117, 110, 116, 105, 116, 108, 101, 100, 46] := by decide
theorem copies_xy : Cp.copies [ix, iy] 1 = [[98, 114, 97, 110, 99, 104, 32, 50, 58, 32, 49, 32, 111, 102, 32, 50, 32, 97, 118, 97, 105, 108, 97, 98, 108, 101], [32, 32, 88, 49]] := by
  have h1 : Cp.live 1 [ix, iy] = [ix, iy] := rfl
  have h2 : Cp.puts Cp.ltI ([ix, iy].map (·.branch)) = [2] := by decide
  have h3 : Cp.ofB 2 [ix, iy] = [ix, iy] := rfl
  have h4 : Cp.puts Cp.ltB (Cp.callsOf [ix, iy]) = [[88, 49]] := by decide
  have h5 : Cp.shelf [ix, iy] = 1 := by decide
  unfold Cp.copies
  rw [h1, h2]
  simp only [List.flatMap_cons, List.flatMap_nil, List.append_nil]
  unfold Cp.block Cp.head
  rw [h3, h4, h5, show (([ix, iy].length : Nat) : Int) = 2 from rfl, show ((1 : Nat) : Int) = 1 from rfl, itoa1, itoa2]
  rfl
theorem wrap4 : Wr.wrap 4 [97, 32, 98, 99, 100, 101, 102, 103, 32, 104, 105] = [[97], [98, 99, 100, 101], [102, 103], [104, 105]] := by decide
theorem wrap5 : Wr.wrap 5 [97, 32, 98, 99, 100, 101, 102, 103, 32, 104, 105] = [[97], [98, 99, 100, 101, 102], [103, 32, 104, 105]] := by decide
theorem valid_s : Tx.valid [97, 32, 98, 99, 100, 101, 102, 103, 32, 104, 105] = true := by decide
theorem good_fs : ∀ f ∈ fs, Gd f := by
  intro f hf
  have hd : ∀ f ∈ fs, f.subs.length ≤ 1000 ∧ ∀ x ∈ f.subs, x.2.size ≤ 100000 ∧ Tx.valid x.2.data.toList = true := by decide
  exact hd f hf
end Al
end Go.Proofs.YtccbadbfijkaeaaGreatDoor
