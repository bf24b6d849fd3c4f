/- The program's Words of a text: what the call returns. -/
import Derived.Test.YtkahplbjbidemaaGreatDoorFoW
namespace Go.Proofs.YtkahplbjbidemaaGreatDoor
open Go.RowKit
set_option maxRecDepth 100000

set_option maxHeartbeats 800000 in
theorem text_sep_c (c : Nat) (w : World) :
    Calls Tryz.prog 84 #[.int .i32 c] w fun e w' => e = .returned (.bool (Tx.sepW c)) ∧ Below w.heap.size w w' := by
  obtain ⟨b, hb⟩ : ∃ b, Tx.sepW c = b := ⟨_, rfl⟩
  rw [hb]
  unfold Tx.sepW Tx.letter at hb
  go_enter Tryz.func84, Tryz.ntmps84
  rcases (show c < 48 ∨ (48 ≤ c ∧ c ≤ 57) ∨ (57 < c ∧ c < 97) ∨ (97 ≤ c ∧ c ≤ 122) ∨ (122 < c ∧ c < 256) ∨ 256 ≤ c by omega) with g | ⟨g1, g2⟩ | ⟨g1, g2⟩ | ⟨g1, g2⟩ | ⟨g1, g2⟩ | g
  · have : b = true := by rw [← hb]; simp; omega
    subst this; clear hb
    go_wp2
    go_ret
    exact ⟨Tx.retb (by first | rfl | (simp; done) | (simp; omega)), Below.refl _ _⟩
  · have : b = false := by rw [← hb]; simp; omega
    have g3 : c < 97 := by omega
    subst this; clear hb
    go_wp2
    go_ret
    exact ⟨Tx.retb (by first | rfl | (simp; done) | (simp; omega)), Below.refl _ _⟩
  · have : b = true := by rw [← hb]; simp; omega
    have g3 : 48 ≤ c := by omega
    have g4 : c < 256 := by omega
    subst this; clear hb
    go_wp2
    go_ret
    exact ⟨Tx.retb (by first | rfl | (simp; done) | (simp; omega)), Below.refl _ _⟩
  · have : b = false := by rw [← hb]; simp; omega
    subst this; clear hb
    go_wp2
    go_ret
    exact ⟨Tx.retb (by first | rfl | (simp; done) | (simp; omega)), Below.refl _ _⟩
  · have : b = true := by rw [← hb]; simp; omega
    have g3 : 97 ≤ c := by omega
    have g4 : 48 ≤ c := by omega
    have g5 : 57 < c := by omega
    subst this; clear hb
    go_wp2
    go_ret
    exact ⟨Tx.retb (by first | rfl | (simp; done) | (simp; omega)), Below.refl _ _⟩
  · have : b = false := by rw [← hb]; simp; omega
    have g3 : 97 ≤ c := by omega
    have g4 : 48 ≤ c := by omega
    have g5 : 57 < c := by omega
    have g6 : 122 < c := by omega
    subst this; clear hb
    go_wp2
    go_ret
    exact ⟨Tx.retb (by first | rfl | (simp; done) | (simp; omega)), Below.refl _ _⟩

theorem text_sep_enters : ∀ args w, (callFunc 84 args).run Tryz.prog w = .ok (.enter 84 args) w := enters_of Tryz.func84 (by kernel_rfl) rfl

set_option maxHeartbeats 800000 in
theorem text_Words_c (s : ByteArray) (w : World) (hG : G w) (hs : s.size ≤ 1000000000) (hv : Tx.valid s.data.toList = true) :
    Calls Tryz.prog 68 #[.string s] w fun e w' => ∃ A xs, e = .returned (.slice (some ⟨A, 0, none⟩) xs.length xs.length) ∧ xs.map (·.data.toList) = Tx.words s.data.toList ∧ SLA w' (some ⟨A, 0, none⟩) xs.length xs ∧ w.heap.size ≤ A ∧ Below w.heap.size w w' := by
  have hfl := Tx.foldS_len hv
  rw [← Lib.size_eq] at hfl
  have hE := Tx.fieldsT_eq Tx.sepW ⟨(Tx.foldS s.data.toList).toArray⟩ (Tx.foldS_valid hv)
  have hn := Tx.fields_len Tx.sepW ⟨(Tx.foldS s.data.toList).toArray⟩
  rw [Tx.size_mk] at hn
  have hp : ∀ w, PredGrows Tryz.prog 84 #[] Tx.sepW w := fun w W x _ _ => text_sep_c x W
  have HP := Lib.hid hp; clear hp
  have HE := Lib.hid hE; clear hE
  have HV := Lib.hid hv; clear hv
  go_enter Tryz.func68, Tryz.ntmps68
  go_wp2_with (first
    | (go_at_call 83; refine (text_Fold_c s _ hG hs HV.out).mono ?_; rintro e w1 ⟨rfl, hb1⟩)
    | (go_at_call 82; refine (Tryz.strings_FieldsFunc_grows 84 #[] text_sep_enters Tx.sepW _ _ (by rw [Tx.size_mk]; omega) (HP.out _)).mono ?_; rintro e w2 ⟨A, rfl, hA, hown, hb2⟩))
  go_ret
  obtain ⟨a, c, h1, h2⟩ := SLA.of_own hown rfl
  cases h1
  exact ⟨A, _, rfl, HE.out, h2, Nat.le_trans hb1.size hA, hb1.trans (hb2.mono hb1.size)⟩
end Go.Proofs.YtkahplbjbidemaaGreatDoor
