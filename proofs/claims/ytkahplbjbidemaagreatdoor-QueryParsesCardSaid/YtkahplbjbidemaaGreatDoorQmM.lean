/- All of the reference's readers together. -/
import Derived.Test.YtkahplbjbidemaaGreatDoorQmL
namespace Go.Proofs.YtkahplbjbidemaaGreatDoor
open Go.RowKit
set_option maxRecDepth 100000

theorem r21_readers (toks : List Qr.Tok) (b o c : Nat) : ∀ n : Nat,
    (∀ (m : Nat) (r : List Qr.Tok) (w : World), m ≤ n → 8 * r.length + 7 ≤ m → r <:+ toks → Qr.RT w toks b o c → Calls Tryz.prog 32 #[.slice (some ⟨b, o, none⟩) (toks.length + 1) c, .int .i64 ((toks.length - r.length : Nat) : Int)] w (Qr.RRes toks (Qr.pOr false m r) w)) ∧
    (∀ (m : Nat) (r : List Qr.Tok) (w : World), m ≤ n → 8 * r.length + 6 ≤ m → r <:+ toks → Qr.RT w toks b o c → Calls Tryz.prog 54 #[.slice (some ⟨b, o, none⟩) (toks.length + 1) c, .int .i64 ((toks.length - r.length : Nat) : Int)] w (Qr.RRes toks (Qr.pAnd false m r) w)) ∧
    (∀ (m : Nat) (r : List Qr.Tok) (w : World), m ≤ n → 8 * r.length + 5 ≤ m → r <:+ toks → Qr.RT w toks b o c → Calls Tryz.prog 77 #[.slice (some ⟨b, o, none⟩) (toks.length + 1) c, .int .i64 ((toks.length - r.length : Nat) : Int)] w (Qr.RRes toks (Qr.pNot false m r) w)) ∧
    (∀ (m : Nat) (r : List Qr.Tok) (w : World), m ≤ n → 8 * r.length + 4 ≤ m → r <:+ toks → Qr.RT w toks b o c → Calls Tryz.prog 88 #[.slice (some ⟨b, o, none⟩) (toks.length + 1) c, .int .i64 ((toks.length - r.length : Nat) : Int)] w (Qr.RRes toks (Qr.pPrim false m r) w))
  | 0 => ⟨fun m r w h1 h2 _ _ => by omega, fun m r w h1 h2 _ _ => by omega, fun m r w h1 h2 _ _ => by omega, fun m r w h1 h2 _ _ => by omega⟩
  | n + 1 => by
    obtain ⟨h1, h2, h3, h4⟩ := r21_readers toks b o c n
    refine ⟨fun m r w hm hn hr hP => ?_, fun m r w hm hn hr hP => ?_, fun m r w hm hn hr hP => ?_, fun m r w hm hn hr hP => ?_⟩
    · by_cases hle : m ≤ n
      · exact h1 m r w hle hn hr hP
      · obtain rfl : m = n + 1 := by omega
        exact r21_or_c toks b o c n h2 r w hn hr hP
    · by_cases hle : m ≤ n
      · exact h2 m r w hle hn hr hP
      · obtain rfl : m = n + 1 := by omega
        exact r21_and_c toks b o c n h3 r w hn hr hP
    · by_cases hle : m ≤ n
      · exact h3 m r w hle hn hr hP
      · obtain rfl : m = n + 1 := by omega
        exact r21_not_c toks b o c n (fun r w h hr hP => h4 n r w (Nat.le_refl _) h hr hP) r w hn hr hP
    · by_cases hle : m ≤ n
      · exact h4 m r w hle hn hr hP
      · obtain rfl : m = n + 1 := by omega
        exact r21_prim_c toks r b o c n w hP hr (fun r w h hr hP => h1 n r w (Nat.le_refl _) h hr hP) hn
end Go.Proofs.YtkahplbjbidemaaGreatDoor
