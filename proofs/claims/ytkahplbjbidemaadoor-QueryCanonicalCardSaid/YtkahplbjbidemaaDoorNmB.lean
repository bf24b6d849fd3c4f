/- Numbers written and read: what the calls return. -/
import Derived.Test.YtkahplbjbidemaaDoorTxD
import Derived.Test.YtkahplbjbidemaaDoorNmA
namespace Go.Proofs.YtkahplbjbidemaaDoor
open Go.RowKit
set_option maxRecDepth 100000

theorem Tx.vint {k : IntKind} {a b : Int} (h : a = b) : Value.int k a = Value.int k b := by rw [h]

theorem conv_digit (d : Int) (n : Nat) (hd : d = (n : Int)) (hn : n < 10) (W : World) :
    (convert 55 9 (.slice (some ⟨W.heap.size, 0, none⟩) 1 1)).run Tryd.prog (W.alloc (.cells #[.int .u8 (48 + d)] 5)) = .ok (.string ⟨[Nm.dig n].toArray⟩) (W.alloc (.cells #[.int .u8 (48 + d)] 5)) := by
  have e := Nm.dig_toNat hn
  have h := run_convert_bytes_back (P := Tryd.prog) (W.alloc (.cells #[.int .u8 (48 + d)] 5)) 55 9 5 ⟨W.heap.size, 0, none⟩ 1 [Nm.dig n] Tryd.underlying55 Tryd.underlying5 Tryd.underlying9 (fun j hj => by
    have hj0 : j = 0 := by simp at hj; omega
    subst hj0
    simp only [List.getElem_cons_zero, e]
    subst hd
    exact Go.cell_one_new _ _ _ 0 _ rfl)
  exact h

/-- strconv.Atoi at every string: the number and no error, or some error. -/
theorem Atoi_c (s : ByteArray) (w : World) (hs : s.size ≤ 281474976710656) (hG : G w) :
    Calls Tryd.prog 73 #[.string s] w fun e w' => ∃ (v : Int) (err : Value), e = .returned (.tuple #[.int .i64 v, err]) ∧ Below w.heap.size w w' ∧
      ((err = .nilIface ∧ Lib.atoiAll s.data.toList = .ok v) ∨ (∃ t p, err = .iface t p ∧ ∀ x, Lib.atoiAll s.data.toList = .ok x → False)) := by
  obtain ⟨te, pe, he⟩ := hG.es
  obtain ⟨tr, pr, hr⟩ := hG.er
  rcases h : Lib.atoiAll s.data.toList with v | _ | _
  · refine (Tryd.strconv_Atoi_ok s (by omega) v h w).mono fun e w' ⟨h1, h2⟩ => ⟨v, .nilIface, h1, ?_, .inl ⟨rfl, rfl⟩⟩
    rcases h2 with rfl | ⟨t, rfl⟩
    · exact Below.refl _ _
    · exact Lib.bytesWorld_below _ _ _
  · refine (Any.strconv_Atoi_syntax Tryd.laysC172 s hs h _ w he (.inr ⟨te, pe, rfl⟩)).mono fun e w' ⟨N, h1, _, _, hb⟩ => ⟨0, _, h1, hb, .inr ⟨_, _, rfl, fun x hx => by cases hx⟩⟩
  · refine (Any.strconv_Atoi_range Tryd.laysC172 s hs h _ w hr (.inr ⟨tr, pr, rfl⟩)).mono fun e w' ⟨N, h1, _, _, hb⟩ => ⟨_, _, h1, hb, .inr ⟨_, _, rfl, fun x hx => by cases hx⟩⟩

theorem Itoa_c (n : Int) (w : World) (h0 : -9223372036854775808 ≤ n) (h1 : n ≤ 9223372036854775807) (hG : G w) :
    Calls Tryd.prog 23 #[.int .i64 n] w fun e w' => e = .returned (.string ⟨(Lib.itoa n).toArray⟩) ∧ Below w.heap.size w w' :=
  (Tryd.strconv_Itoa n h0 h1 w hG.p).mono fun _ _ ⟨he, k, os, hw⟩ => ⟨he, hw ▸ below_grown w k os⟩

theorem Tx.atoi_bound {l : List UInt8} {v : Int} (h : Lib.atoiAll l = .ok v) : -9223372036854775808 ≤ v ∧ v ≤ 9223372036854775807 := by
  unfold Lib.atoiAll at h
  split at h
  · cases h
  · simp only at h
    repeat' split at h
    all_goals first | (cases h; done) | (injection h with h; subst h; constructor <;> omega)

end Go.Proofs.YtkahplbjbidemaaDoor
