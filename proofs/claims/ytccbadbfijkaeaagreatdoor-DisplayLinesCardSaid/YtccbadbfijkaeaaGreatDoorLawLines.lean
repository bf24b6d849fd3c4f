/- Layer 25: the law DisplayLines: what its call returns. -/
import Derived.Test.YtccbadbfijkaeaaGreatDoorRfA
import Derived.Test.YtccbadbfijkaeaaGreatDoorAlD
import Derived.Deep.RegionHeld3
namespace Go.Proofs.YtccbadbfijkaeaaGreatDoor
open Go.RowKit
set_option maxRecDepth 100000

namespace Wr
/-- What the law asks of a line, by its bytes. -/
theorem line_bytes {n : Nat} {x : Rc.By} (h : Ln n x) : ∃ (B0 B1 : UInt8) (m : Nat), x.length = m + 1 ∧ (∀ h, (⟨x.toArray⟩ : ByteArray)[0]'h = B0) ∧ (∀ h, (⟨x.toArray⟩ : ByteArray)[m]'h = B1) ∧ ((B0.toNat : Int) == 32) = false ∧ ((B1.toNat : Int) == 32) = false := by
  have hl := List.length_pos_iff.2 h.ne
  have g : ∀ (i : Nat) (hi : i < x.length) h, (⟨x.toArray⟩ : ByteArray)[i]'h = x[i]'hi := fun i hi h => rfl
  have n32 : ∀ b : UInt8, b ≠ 32 → ((b.toNat : Int) == 32) = false := fun b hb => by
    rw [beq_eq_false_iff_ne]
    intro e
    apply hb
    apply UInt8.toNat.inj
    have : b.toNat = 32 := by omega
    rw [this]; rfl
  refine ⟨x[0]'hl, x[x.length - 1]'(by omega), x.length - 1, by omega, g 0 hl, g (x.length - 1) (by omega), n32 _ fun e => ?_, n32 _ fun e => ?_⟩
  · apply h.h
    rw [List.head?_eq_getElem?, List.getElem?_eq_getElem hl, e]
  · apply h.l
    rw [List.getLast?_eq_getElem?, List.getElem?_eq_getElem (by omega), e]
/-- Blanks do not make a line long. -/
def Dn (l : Rc.By) : Prop := l.length + 1 ≤ 2 * (solid l).length
theorem Pc.dn {n : Nat} {p : Rc.By} (h : Pc n p) : Dn p := by
  unfold Dn
  rw [h.s]
  have := List.length_pos_iff.2 h.ne
  omega
theorem wstep_dn {n : Nat} {st : List Rc.By × Rc.By} {p : Rc.By} (h : (∀ l ∈ st.1, Dn l) ∧ (st.2 = [] ∨ Dn st.2)) (hp : Pc n p) : (∀ l ∈ (wstep n st p).1, Dn l) ∧ ((wstep n st p).2 = [] ∨ Dn (wstep n st p).2) := by
  unfold wstep
  by_cases h0 : st.2 = []
  · rw [if_pos h0]
    exact ⟨h.1, .inr hp.dn⟩
  · have hl := h.2.resolve_left h0
    rw [if_neg h0]
    split
    · refine ⟨h.1, .inr ?_⟩
      have h3 := hp.dn
      unfold Dn at hl h3 ⊢
      simp only [solid_app, List.length_append, List.length_cons, List.length_nil]
      omega
    · refine ⟨fun l h2 => ?_, .inr hp.dn⟩
      rcases List.mem_append.1 h2 with h4 | h4
      · exact h.1 l h4
      · simp at h4; subst h4; exact hl
theorem fold_dn {n : Nat} : ∀ (ps : List Rc.By) (st : List Rc.By × Rc.By), ((∀ l ∈ st.1, Dn l) ∧ (st.2 = [] ∨ Dn st.2)) → (∀ p ∈ ps, Pc n p) → (∀ l ∈ (ps.foldl (wstep n) st).1, Dn l) ∧ ((ps.foldl (wstep n) st).2 = [] ∨ Dn (ps.foldl (wstep n) st).2)
  | [], st, h, _ => h
  | p :: ps, st, h, hp => fold_dn ps _ (wstep_dn h (hp p (by simp))) fun q hq => hp q (by simp [hq])
theorem wrap_dn {n : Int} (hn : ¬ n < 1) {s : Rc.By} (hv : Tx.valid s = true) : ∀ l ∈ wrap n s, Dn l := by
  have h1 := wordsR_good (show 1 ≤ n.toNat by omega) s [] (by simpa using hv) rfl
  have h2 := fold_dn (wordsR n.toNat [] s) ([], []) ⟨fun l hl => (by cases hl), .inl rfl⟩ h1.1
  intro l hl
  unfold wrap wfin at hl
  rw [if_neg hn] at hl
  rcases List.mem_append.1 hl with h | h
  · exact h2.1 l h
  · split at h
    · cases h
    · rename_i hc
      simp at h
      subst h
      exact h2.2.resolve_left hc
theorem count_solid : ∀ (L : List Rc.By), (∀ l ∈ L, Dn l) → L.length ≤ (solid L.flatten).length
  | [], _ => by simp
  | x :: L, h => by
    have h1 := count_solid L fun l hl => h l (by simp [hl])
    have h2 := h x (by simp)
    unfold Dn at h2
    rw [List.flatten_cons, solid_app, List.length_append, List.length_cons]
    omega
theorem mem_solid {L : List Rc.By} {x : Rc.By} (h : x ∈ L) : (solid x).length ≤ (solid L.flatten).length := by
  obtain ⟨k, hk, rfl⟩ := List.mem_iff_getElem.1 h
  have e : L.flatten = (L.take k).flatten ++ (L[k] ++ (L.drop (k + 1)).flatten) := by
    conv => lhs; rw [← List.take_append_drop k L, List.flatten_append, List.drop_eq_getElem_cons hk, List.flatten_cons]
  rw [e, solid_app, solid_app, List.length_append, List.length_append]
  omega
theorem flat_take_le (L : List Rc.By) (k : Nat) : (solid (L.take k).flatten).length ≤ (solid L.flatten).length := by
  have e : L.flatten = (L.take k).flatten ++ (L.drop k).flatten := by rw [← List.flatten_append, List.take_append_drop]
  rw [e, solid_app, List.length_append]
  omega
theorem flat_step {L : List Rc.By} {k : Nat} {x : Rc.By} (h : L[k]? = some x) : solid (L.take (k + 1)).flatten = solid (L.take k).flatten ++ solid x := by
  rw [take_at h, List.flatten_append, solid_app]
  simp
end Wr

set_option maxHeartbeats 3200000 in
theorem lines_law (s : ByteArray) (n : Int) (w : World) (hG : G w) (hn2 : n ≤ 9223372036854775807) :
    Calls Tryz.prog 7 #[.string s, .int .i64 n] w fun e w' => e = .returned (.bool true) ∧ Below w.heap.size w w' := by
  by_cases hs : s.size ≤ 1000
  · cases hv : Tx.valid s.data.toList with
    | false =>
      have HV := Lib.hid hv; clear hv
      go_enter Tryz.func7, Tryz.ntmps7
      go_wp2_with (first
        | (go_at_call 10; refine (alive_c _ hG).mono ?_; rintro e w1 ⟨rfl, hb1⟩)
        | (go_at_call 22; refine (r01_Valid_c s _ (by omega)).mono ?_; rintro e w2 ⟨rfl, hb2⟩; rw [HV.out]))
      go_ret
      exact ⟨rfl, Tx.step hb1 hb2⟩
    | true =>
      by_cases hn : n < 1
      · have hW : Wr.wrap n s.data.toList = [] := by unfold Wr.wrap; rw [if_pos hn]
        have HW := Lib.hid hW; clear hW
        have HV := Lib.hid hv; clear hv
        go_enter Tryz.func7, Tryz.ntmps7
        go_wp2_with (first
          | (go_at_call 10; refine (alive_c _ hG).mono ?_; rintro e w1 ⟨rfl, hb1⟩)
          | (go_at_call 22; refine (r01_Valid_c s _ (by omega)).mono ?_; rintro e w2 ⟨rfl, hb2⟩; rw [HV.out]; have hb12 := Tx.step hb1 hb2)
          | (go_at_call 23; refine (Wrap_c s n _ (by omega) HV.out hn2 (hG.below hb12)).mono ?_; rintro e w3 ⟨va, vc, rfl, hsl, hb3⟩; rw [HW.out, List.map_nil]))
        go_ret
        exact ⟨rfl, Tx.step hb12 hb3⟩
      · obtain ⟨hwl, hws⟩ := Wr.wrap_good hn hv
        obtain ⟨L, hL⟩ : ∃ L, Wr.wrap n s.data.toList = L := ⟨_, rfl⟩
        rw [hL] at hwl hws
        have hsl1 : (Wr.solid s.data.toList).length ≤ 1000 := by
          have := Wr.solid_le s.data.toList
          rw [← Lib.size_eq] at this
          omega
        have hdn := Wr.wrap_dn hn hv
        rw [hL] at hdn
        have hLl : L.length ≤ 1000 := by
          have := Wr.count_solid L hdn
          rw [hws] at this
          omega
        have HL := Lib.hid hL; clear hL
        have HV := Lib.hid hv; clear hv
        have HDN := Lib.hid hdn; clear hdn
        have HWL := Lib.hid hwl; clear hwl
        have HWS := Lib.hid hws; clear hws
        go_enter Tryz.func7, Tryz.ntmps7
        go_wp2_with (first
          | (go_at_call 10; refine (alive_c _ hG).mono ?_; rintro e w1 ⟨rfl, hb1⟩)
          | (go_at_call 22; refine (r01_Valid_c s _ (by omega)).mono ?_; rintro e w2 ⟨rfl, hb2⟩; rw [HV.out]; have hb12 := Tx.step hb1 hb2)
          | (go_at_call 23; refine (Wrap_c s n _ (by omega) HV.out hn2 (hG.below hb12)).mono ?_; rintro e w3 ⟨va, vc, rfl, hsl, hb3⟩; rw [HL.out] at hsl ⊢; rw [List.length_map]; have hb13 := Tx.step hb12 hb3))
        go_loopw [6, 7] (fun al i wr => ∃ (k : Nat) (A : List UInt8), k ≤ L.length ∧ i = .int .i64 k ∧ al = .string ⟨A.toArray⟩ ∧ Hid (A = Wr.solid (L.take k).flatten) ∧ A.length ≤ 1000 ∧ Below w3.heap.size w3 wr) (fun _ i _ => L.length - (intOf i).toNat)
        case atStart => exact ⟨0, [], Nat.zero_le _, rfl, rfl, Lib.hid rfl, by simp, Below.refl _ _⟩
        case round =>
          obtain ⟨k, A, hk, rfl, rfl, hA, hAl, hb⟩ := hrel
          by_cases hlt : k < L.length
          · obtain ⟨x, hx⟩ : ∃ x, L[k]? = some x := ⟨_, List.getElem?_eq_getElem hlt⟩
            have hln := HWL.out x (List.mem_of_getElem? hx)
            obtain ⟨B0, B1, m, hm, hx0, hxm, hB0, hB1⟩ := Wr.line_bytes hln
            have hxr := hln.r
            have hfl := Wr.flat_step hx
            have hfle := Wr.flat_take_le L (k + 1)
            rw [HWS.out, hfl, ← hA.out, List.length_append] at hfle
            rw [← hA.out] at hfl
            obtain ⟨b, o, rfl, hbl, c0⟩ := hsl.get (k := k) (x := Wr.mk x) (by rw [List.getElem?_map, hx]; rfl)
            have d0 : wr.cell? ⟨b, o + k, none⟩ = some (.string ⟨x.toArray⟩) := cell_later hb c0
            have hxl : x.length ≤ 1000000 := by
              have h1 := HDN.out x (List.mem_of_getElem? hx)
              have h2 := Wr.mem_solid (List.mem_of_getElem? hx)
              rw [HWS.out] at h2
              unfold Wr.Dn at h1
              omega
            have hrn : ((Wr.runes x : Nat) : Int) ≤ n := by omega
            have HFL := Lib.hid hfl; clear hfl
            have hxe : x.isEmpty = false := by cases x with
              | nil => simp at hm
              | cons => rfl
            have q1 : IntKind.i64.wrap ((x.length : Int) - 1) = (m : Int) := by rw [IntWalk.i64_in _ (by omega)]; omega
            have f1 : (m : Int) < (x.length : Int) := by omega
            have f0 : (0 : Int) < (x.length : Int) := by omega
            have HM := Lib.hid hm
            clear c0 hx hln hA hm
            go_wp2
            go_region_held3 (fun w' => Below wr.heap.size wr w' ∧ w'.cell? ⟨b, o + k, none⟩ = some (.string ⟨x.toArray⟩))
              (first
                | exact ⟨(Below.refl _ _).drew, d0⟩
                | (go_split_ands; exact ⟨Tx.step (by assumption) hbc, cell_later hbc (by assumption)⟩))
              (first
                | (go_at_call 25; refine (r01_Runes_c ⟨x.toArray⟩ _ (by rw [Tx.size_mk]; omega)).mono ?_; rintro e w5 ⟨rfl, hbc⟩))
            go_split_ands
            have hb5 : Below wr.heap.size wr w5 := by assumption
            have d5 : w5.cell? ⟨b, o + k, none⟩ = some (.string ⟨x.toArray⟩) := by assumption
            have hsxl : (Wr.solid x).length ≤ 1000000 := Nat.le_trans (Wr.solid_le x) hxl
            obtain ⟨a1, -⟩ := Tx.adds_ok Tryz.prog [⟨(Wr.solid x).toArray⟩] ⟨A.toArray⟩ (by simp only [List.map_cons, List.map_nil, List.sum_cons, List.sum_nil, Tx.size_mk]; omega)
            clear hx0 hxm hB0 hB1 q1 f0 f1 d0
            go_wp2_with (go_at_call 26; refine (solid_c ⟨x.toArray⟩ _ (by rw [Tx.size_mk]; omega)).mono ?_; rintro e w6 ⟨rfl, hb6⟩; rw [show (⟨x.toArray⟩ : ByteArray).data.toList = x from rfl])
            go_roundw
            case rel => exact ⟨k + 1, A ++ Wr.solid x, by omega, by go_num, by rw [Tx.bcat], Lib.hid HFL.out.symm, by rw [List.length_append]; omega, Tx.step (Tx.step hb hb5) hb6⟩
            case measure => simp [intOf]; omega
          · obtain rfl : k = L.length := by omega
            have hAs : A = Wr.solid s.data.toList := by rw [hA.out, Rc.take_all, HWS.out]
            have HAS := Lib.hid hAs; clear hAs hA
            go_wp2_with (go_at_call 26; refine (solid_c s _ (by omega)).mono ?_; rintro e w6 ⟨rfl, hb6⟩; rw [← HAS.out])
            go_ret
            exact ⟨Tx.retb (by simp), Tx.step hb13 (Tx.step hb hb6)⟩
  · go_enter Tryz.func7, Tryz.ntmps7
    go_wp2_with (go_at_call 10; refine (alive_c _ hG).mono ?_; rintro e w1 ⟨rfl, hb1⟩)
    go_ret
    exact ⟨rfl, hb1⟩
end Go.Proofs.YtccbadbfijkaeaaGreatDoor
