/- What the program's Get, first, Title, Author and Year return. -/
import Derived.Test.YtlinaeklhkfbcaaGreatDoorRcB
import Derived.Test.YtlinaeklhkfbcaaGreatDoorTxE
namespace Go.Proofs.YtlinaeklhkfbcaaGreatDoor
open Go.RowKit
set_option maxRecDepth 100000

namespace Rc
/-- The first place at which something holds, from a place on; -1 if there is none. -/
def idxF {α : Type} (p : α → Bool) : Nat → List α → Int
  | _, [] => -1
  | k, x :: r => if p x = true then (k : Int) else idxF p (k + 1) r
theorem idxF_none {α : Type} {p : α → Bool} : ∀ (l : List α) (k : Nat), l.find? p = none → idxF p k l = -1
  | [], _, _ => rfl
  | x :: r, k, h => by
    unfold idxF
    rw [List.find?_cons] at h
    cases hp : p x with
    | true => rw [hp] at h; cases h
    | false => rw [hp] at h; simpa using idxF_none r (k + 1) h
theorem idxF_some {α : Type} {p : α → Bool} {y : α} : ∀ (l : List α) (k : Nat), l.find? p = some y → ∃ j, idxF p k l = ((k + j : Nat) : Int) ∧ l[j]? = some y
  | [], _, h => by simp at h
  | x :: r, k, h => by
    unfold idxF
    rw [List.find?_cons] at h
    cases hp : p x with
    | true => rw [hp] at h; injection h with h; subst h; exact ⟨0, by simp, rfl⟩
    | false =>
      rw [hp] at h
      obtain ⟨j, h1, h2⟩ := idxF_some r (k + 1) h
      exact ⟨j + 1, by simp only [Bool.false_eq_true, if_false]; rw [h1]; congr 1; omega, by simpa using h2⟩
theorem idxF_step {α : Type} (p : α → Bool) {l : List α} {k : Nat} {x : α} (h : l[k]? = some x) : idxF p k (l.drop k) = if p x = true then (k : Int) else idxF p (k + 1) (l.drop (k + 1)) := by
  have hk : k < l.length := (List.getElem?_eq_some_iff.1 h).1
  rw [List.drop_eq_getElem_cons hk]
  have : l[k]'hk = x := (List.getElem?_eq_some_iff.1 h).2
  rw [this]
  rfl
theorem u8_eq {a b : UInt8} : ((a.toNat : Int) == (b.toNat : Int)) = (a == b) := by
  rw [Bool.eq_iff_iff]
  simp only [beq_iff_eq]
  constructor
  · intro h; exact UInt8.toNat.inj (by omega)
  · intro h; rw [h]
end Rc

set_option maxHeartbeats 400000 in
theorem get1_c (x : UInt8 × ByteArray) (cd : UInt8) (p : Nat) (w : World) (hp : w.cell? ⟨p, 0, none⟩ = some (.int .u8 cd.toNat)) :
    Calls Tryz.prog 79 #[.agg #[.int .u8 x.1.toNat, .string x.2], .pointer (some ⟨p, 0, none⟩)] w fun e w' => e = .returned (.bool (x.1 == cd)) ∧ Below w.heap.size w w' := by
  have hq := Rc.u8_eq (a := x.1) (b := cd)
  have hp2 := cell_later (Tx.newb w (.cells #[.int .u8 x.1.toNat, .string x.2] 48)) hp
  go_enter Tryz.func79, Tryz.ntmps79
  go_wp2
  go_ret
  exact ⟨Tx.retb (by first | exact hq | rfl), Tx.newb _ _⟩

set_option maxHeartbeats 800000 in
theorem idxSub_c (xs : List (UInt8 × ByteArray)) (a : Option Addr) (c : Nat) (cd : UInt8) (p : Nat) (w : World) (h : Rc.SubA w a c xs) (hp : w.cell? ⟨p, 0, none⟩ = some (.int .u8 cd.toNat)) :
    Calls Tryz.prog 78 #[.slice a xs.length c, .func (.func 79) #[] #[.pointer (some ⟨p, 0, none⟩)]] w fun e w' => e = .returned (.int .i64 (Rc.idxF (fun x => x.1 == cd) 0 xs)) ∧ Below w.heap.size w w' := by
  have hcap := h.cap
  have hmax := h.max
  go_enter Tryz.func78, Tryz.ntmps78
  go_wp2
  go_loopw [5, 8] (fun _ i wr => ∃ (k : Nat), k ≤ xs.length ∧ i = .int .i64 k ∧ Hid (Rc.idxF (fun x => x.1 == cd) k (xs.drop k) = Rc.idxF (fun x => x.1 == cd) 0 xs) ∧ Below w.heap.size w wr) (fun _ i _ => xs.length - (intOf i).toNat)
  case atStart => exact ⟨0, Nat.zero_le _, rfl, Lib.hid (by rw [List.drop_zero]), Below.refl _ _⟩
  case round =>
    obtain ⟨k, hk, rfl, hI, hb⟩ := hrel
    by_cases hlt : k < xs.length
    · obtain ⟨x, hx⟩ : ∃ x, xs[k]? = some x := ⟨_, List.getElem?_eq_getElem hlt⟩
      obtain ⟨b, o, rfl, hbl, c0, c1⟩ := h.get hx
      replace c0 := cell_later hb c0
      replace c1 := cell_later hb c1
      have hp1 := cell_later hb hp
      have hst := Rc.idxF_step (fun x => x.1 == cd) hx
      rw [hI.out] at hst
      have hmx : maxLen = 9223372036854775807 := rfl
      cases hq : (x.1 == cd) with
      | true =>
        simp only [hq, if_true] at hst
        have HS := Lib.hid hst; clear hst
        have HQ := Lib.hid hq; clear hq
        go_wp2_with (go_at_call 79; refine (get1_c x cd p _ hp1).mono ?_; rintro e w1 ⟨rfl, hb1⟩; rw [HQ.out])
        go_ret
        exact ⟨Tx.ret1 HS.out.symm, Tx.step hb hb1⟩
      | false =>
        simp only [hq, Bool.false_eq_true, if_false] at hst
        have HS := Lib.hid hst; clear hst
        have HQ := Lib.hid hq; clear hq
        go_wp2_with (go_at_call 79; refine (get1_c x cd p _ hp1).mono ?_; rintro e w1 ⟨rfl, hb1⟩; rw [HQ.out])
        go_roundw
        case rel => exact ⟨k + 1, by omega, by go_num, Lib.hid HS.out.symm, Tx.step hb hb1⟩
        case measure => simp [intOf]; omega
    · obtain rfl : k = xs.length := by omega
      have hI2 := hI.out
      rw [List.drop_length] at hI2
      have HI := Lib.hid hI2; clear hI2 hI
      go_wp2
      go_ret
      exact ⟨Tx.ret1 (by rw [← HI.out]; rfl), hb⟩

set_option maxHeartbeats 800000 in
theorem field_Get_c (f : Rc.Fl) (a : Option Addr) (c : Nat) (cd : UInt8) (w : World) (h : Rc.SubA w a c f.subs) :
    Calls Tryz.prog 50 #[.agg #[.string f.tag, .string f.ind, .slice a f.subs.length c, .int .i64 f.auth], .int .u8 cd.toNat] w fun e w' => e = .returned (.tuple #[.string ((Rc.get f.subs cd).getD ⟨#[]⟩), .bool (Rc.get f.subs cd).isSome]) ∧ Below w.heap.size w w' := by
  obtain ⟨W, hW⟩ : ∃ W, (w.alloc (.cells #[.string f.tag, .string f.ind, .slice a f.subs.length c, .int .i64 f.auth] 24)).alloc (.cells #[.int .u8 cd.toNat] 5) = W := ⟨_, rfl⟩
  have hB : Below w.heap.size w W := by rw [← hW]; exact (Tx.newb _ _).alloc (Tx.newb w _).size _
  have hp : W.cell? ⟨w.heap.size + 1, 0, none⟩ = some (.int .u8 cd.toNat) := by rw [← hW]; simp
  have hs2 : W.cell? ⟨w.heap.size, 2, none⟩ = some (.slice a f.subs.length c) := by rw [← hW]; simp
  have h1 := h.below hB
  have HW := Lib.hid hW; clear hW
  have hcap := h.cap
  cases hf : f.subs.find? (fun x => x.1 == cd) with
  | none =>
    have hI := Rc.idxF_none f.subs 0 hf
    have hG : Rc.get f.subs cd = none := by unfold Rc.get; rw [hf]; rfl
    have HI := Lib.hid hI; clear hI
    have HG := Lib.hid hG; clear hG hf
    go_enter Tryz.func50, Tryz.ntmps50
    go_wp2_with (go_at_call 78; rw [HW.out]; refine (idxSub_c f.subs a c cd _ _ h1 hp).mono ?_; rintro e w1 ⟨rfl, hb1⟩; rw [HI.out]; have hs3 := cell_later hb1 hs2)
    go_ret2
    rw [HG.out]
    exact ⟨rfl, Tx.step hB hb1⟩
  | some y =>
    obtain ⟨j, hI, hj⟩ := Rc.idxF_some f.subs 0 hf
    rw [Nat.zero_add] at hI
    have hG : Rc.get f.subs cd = some y.2 := by unfold Rc.get; rw [hf]; rfl
    have hjl : j < f.subs.length := (List.getElem?_eq_some_iff.1 hj).1
    obtain ⟨b, o, rfl, hbl, c0, c1⟩ := h1.get hj
    have HI := Lib.hid hI; clear hI
    have HG := Lib.hid hG; clear hG hf
    go_enter Tryz.func50, Tryz.ntmps50
    go_wp2_with (go_at_call 78; rw [HW.out]; refine (idxSub_c f.subs _ c cd _ _ h1 hp).mono ?_; rintro e w1 ⟨rfl, hb1⟩; rw [HI.out]; have hs3 := cell_later hb1 hs2; have c3 := cell_later hb1 c1)
    go_ret2
    rw [HG.out]
    exact ⟨rfl, Tx.step hB hb1⟩
end Go.Proofs.YtlinaeklhkfbcaaGreatDoor
