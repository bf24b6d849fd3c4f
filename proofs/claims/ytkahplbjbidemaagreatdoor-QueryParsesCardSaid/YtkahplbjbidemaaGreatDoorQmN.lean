/- The reference divides a text into tokens: what the call returns. -/
import Derived.Test.YtkahplbjbidemaaGreatDoorQmM
namespace Go.Proofs.YtkahplbjbidemaaGreatDoor
open Go.RowKit
set_option maxRecDepth 100000

theorem info_rtok : (Tryz.prog.info? 55).map (fun i => (i.zero, i.size, i.bytes)) = some (some (.agg #[.int .i64 0, .string ⟨#[]⟩, .bool false]), 3, 32) := by kernel_rfl
namespace Qr
abbrev encR (t : Tok) : List Value := [.int .i64 (kR t.k), .string ⟨(tx t).toArray⟩, .bool t.g]
def sg (c : UInt8) : Bool := c == 40 || c == 41 || c == 58 || c == 42
theorem sgn_sg (c : UInt8) : sgn c = (c == 32 || c == 34 || sg c) := by
  unfold sgn sg
  cases c == 32 <;> cases c == 34 <;> cases c == 40 <;> cases c == 41 <;> cases c == 58 <;> cases c == 42 <;> rfl
theorem encR_sign (c : UInt8) (g : Bool) (h : sg c = true) : encR ⟨c, [], g⟩ = [.int .i64 3, .string ⟨#[c]⟩, .bool g] := by
  unfold sg at h
  simp only [Bool.or_eq_true, beq_iff_eq] at h
  rcases h with ((h | h) | h) | h <;> subst h <;> rfl
theorem sg_iff {c : UInt8} : sg c = true ↔ (c = 40 ∨ c = 41 ∨ c = 58 ∨ c = 42) := by
  unfold sg
  simp only [Bool.or_eq_true, beq_iff_eq]
  constructor
  · rintro (((h | h) | h) | h)
    · exact .inl h
    · exact .inr (.inl h)
    · exact .inr (.inr (.inl h))
    · exact .inr (.inr (.inr h))
  · rintro (h | h | h | h)
    · exact .inl (.inl (.inl h))
    · exact .inl (.inl (.inr h))
    · exact .inl (.inr h)
    · exact .inr h
theorem any34 {out r l : List Tok} {g : Bool} (h : out ++ (⟨34, [], g⟩ :: r) = l) : l.any (fun t => t.k == 34) = true := by
  subst h
  simp
theorem any34_not {l : List Tok} (h : ∀ t ∈ l, t.k ≠ 34) : l.any (fun t => t.k == 34) = false := by
  rw [List.any_eq_false]
  intro t ht
  simpa using h t ht
end Qr
theorem r21_sign_c (c : UInt8) (w : World) :
    Calls Tryz.prog 53 #[.int .u8 (c.toNat : Int)] w fun e w' => e = .returned (.bool (Qr.sg c)) ∧ w' = w := by
  by_cases h1 : c = 40
  · subst h1
    go_enter Tryz.func53, Tryz.ntmps53
    go_wp2
    go_ret
    exact ⟨rfl, rfl⟩
  · have n40 : ((c.toNat : Int) == 40) = false := beq_eq_false_iff_ne.2 (Qr.kn (n := 40) (by decide) h1)
    by_cases h2 : c = 41
    · subst h2
      go_enter Tryz.func53, Tryz.ntmps53
      go_wp2
      go_ret
      exact ⟨rfl, rfl⟩
    · have n41 : ((c.toNat : Int) == 41) = false := beq_eq_false_iff_ne.2 (Qr.kn (n := 41) (by decide) h2)
      by_cases h3 : c = 58
      · subst h3
        go_enter Tryz.func53, Tryz.ntmps53
        go_wp2
        go_ret
        exact ⟨rfl, rfl⟩
      · have n58 : ((c.toNat : Int) == 58) = false := beq_eq_false_iff_ne.2 (Qr.kn (n := 58) (by decide) h3)
        by_cases h4 : c = 42
        · subst h4
          go_enter Tryz.func53, Tryz.ntmps53
          go_wp2
          go_ret
          exact ⟨rfl, rfl⟩
        · have n42 : ((c.toNat : Int) == 42) = false := beq_eq_false_iff_ne.2 (Qr.kn (n := 42) (by decide) h4)
          have hsg : Qr.sg c = false := by
            unfold Qr.sg
            simp only [Bool.or_eq_false_iff, beq_eq_false_iff_ne]
            exact ⟨⟨⟨h1, h2⟩, h3⟩, h4⟩
          rw [hsg]
          go_enter Tryz.func53, Tryz.ntmps53
          go_wp2
          go_ret
          exact ⟨rfl, rfl⟩
end Go.Proofs.YtkahplbjbidemaaGreatDoor
