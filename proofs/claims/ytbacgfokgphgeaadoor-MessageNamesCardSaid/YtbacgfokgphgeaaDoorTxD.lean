/- The program's small functions on texts: what the calls return. -/
import Derived.Test.YtbacgfokgphgeaaDoorTxC
import Derived.Test.YtbacgfokgphgeaaDoorShelf
import Derived.Deep.LoopGhost
import Derived.Lib.OthersKept
namespace Go.Proofs.YtbacgfokgphgeaaDoor
open Go.RowKit

/-- What the world holds of Go's own tables. -/
structure G (w : World) : Prop where
  u : Lib.Utf8Tabs 0 1 w
  p : Lib.TabIs Tryd.prog w "internal/strconv.uint64pow10" .u64 Lib.pow10Tab
  m : ∃ m, w.cell? ⟨3, 0, none⟩ = some (.int .i64 m)
  es : ∃ te pe, w.cell? ⟨4, 0, none⟩ = some (.iface te pe)
  er : ∃ te pe, w.cell? ⟨5, 0, none⟩ = some (.iface te pe)
  lo : 2 < w.heap.size
theorem G.below {w w' : World} (h : G w) (hb : Below w.heap.size w w') : G w' := by
  obtain ⟨m, hm⟩ := h.m
  obtain ⟨te, pe, hs⟩ := h.es
  obtain ⟨tf, pf, hr⟩ := h.er
  exact ⟨Utf8Tabs_below h.u hb, var?_below hb (by kernel_rfl) h.lo h.p, ⟨m, cell_later hb hm⟩, ⟨te, pe, cell_later hb hs⟩, ⟨tf, pf, cell_later hb hr⟩, Nat.lt_of_lt_of_le h.lo hb.size⟩

namespace Tx
theorem decide_blank (c : Nat) : ((c : Int) == 32 || (c : Int) == 160) = blank c := by
  have e1 : ((c : Int) == 32) = (c == 32) := by rw [Bool.eq_iff_iff]; simp; omega
  have e2 : ((c : Int) == 160) = (c == 160) := by rw [Bool.eq_iff_iff]; simp; omega
  rw [e1, e2]; rfl
theorem spans_len (p : Nat → Bool) (s : ByteArray) : ∀ (f pos : Nat) (st : Option Nat) (acc : List (Nat × Nat)), (Lib.spansFromP p s f pos st acc).1.length ≤ acc.length + f
  | 0, pos, st, acc => by simp [Lib.spansFromP]
  | f + 1, pos, st, acc => by
    unfold Lib.spansFromP
    repeat' split
    · have h := spans_len p s f (pos + (Utf8.decode s pos).2) none (acc ++ [(‹Nat›, pos)])
      rw [List.length_append] at h
      simp at h
      omega
    all_goals first | (refine Nat.le_trans (spans_len p s f _ _ _) ?_; omega) | simp
theorem fields_len (p : Nat → Bool) (s : ByteArray) : (Lib.goFieldsP p s).length ≤ s.size + 1 := by
  unfold Lib.goFieldsP Lib.spansOfP Lib.closeSpans
  have := spans_len p s s.size 0 none []
  rw [List.length_map]
  split
  · rw [List.length_append]; simp at this ⊢; omega
  · simp at this; omega
theorem cleanFold_len : ∀ (n : Nat) (l : List UInt8) (out : List UInt8) (gap : Bool), l.length ≤ n → (foldT cleanStep (out, gap) l).1.length ≤ out.length + 2 * l.length
  | 0, l, out, gap, h => by
    have : l = [] := List.eq_nil_of_length_eq_zero (by omega)
    subst this
    rw [foldT_nil]
    simp
  | n + 1, l, out, gap, h => by
    by_cases hne : l = []
    · subst hne
      rw [foldT_nil]
      simp
    · have hw := wid_pos l
      have hl := wid_le hne
      rw [foldT_step cleanStep _ hne]
      have ih := fun o g => cleanFold_len n (l.drop (wid l)) o g (by rw [List.length_drop]; omega)
      have e : (cleanStep (out, gap) (l.take (wid l)) (rdec l).1).1.length ≤ out.length + 1 + wid l := by
        unfold cleanStep
        repeat' split
        all_goals simp only [List.length_append, List.length_take, List.length_cons, List.length_nil]
        all_goals omega
      have h2 := ih (cleanStep (out, gap) (l.take (wid l)) (rdec l).1).1 (cleanStep (out, gap) (l.take (wid l)) (rdec l).1).2
      rw [List.length_drop] at h2
      refine Nat.le_trans h2 ?_
      omega
theorem clean_len (l : List UInt8) : (clean l).length ≤ 2 * l.length := by
  have := cleanFold_len l.length l [] false (Nat.le_refl _)
  simpa [clean] using this
theorem own_cells {w : World} {B e cap A : Nat} {xs : List ByteArray} (h : w.ownsRow B e 1 (.slice (some ⟨A, 0, none⟩) xs.length cap) xs.length (xs.map Value.string)) :
    ∀ (j : Nat) x, xs[j]? = some x → w.cell? ⟨A, 0 + j, none⟩ = some (.string x) := by
  intro j x hx
  have hj : j < xs.length := (List.getElem?_eq_some_iff.1 hx).1
  rw [Nat.zero_add, h.cellAt j (by omega), List.getElem?_map, hx]
  rfl
theorem own_lt {w : World} {B e n m cap A : Nat} {xs : List Value} (h : w.ownsRow B e 1 (.slice (some ⟨A, 0, none⟩) m cap) n xs) : A < w.heap.size := (h.lt A rfl).2
end Tx

set_option maxHeartbeats 400000 in
theorem text_blank_c (c : Nat) (w : World) :
    Calls Tryd.prog 45 #[.int .i32 c] w fun e w' => e = .returned (.bool (Tx.blank c)) ∧ Below w.heap.size w w' := by
  go_enter Tryd.func45, Tryd.ntmps45
  go_wp2
  all_goals
    go_ret
    refine ⟨Tx.retb ?_, Below.refl _ _⟩
    rw [← Tx.decide_blank] <;> simp [*]

theorem text_blank_enters : ∀ args w, (callFunc 45 args).run Tryd.prog w = .ok (.enter 45 args) w := enters_of Tryd.func45 (by kernel_rfl) rfl

set_option maxHeartbeats 400000 in
theorem text_Clean_c (s : ByteArray) (w : World) (hs : s.size ≤ 1000000000) (hv : Tx.valid s.data.toList = true) :
    Calls Tryd.prog 33 #[.string s] w fun e w' => e = .returned (.string ⟨(Tx.clean s.data.toList).toArray⟩) ∧ Below w.heap.size w w' := by
  have hce := Tx.clean_eq s hv
  have hcl := Tx.clean_len s.data.toList
  rw [← Lib.size_eq] at hcl
  have hfl := Tx.fields_len Tx.blank s
  have HE := Lib.hid hce; clear hce
  have HV := Lib.hid hv; clear hv
  have hp : PredGrows Tryd.prog 45 #[] Tx.blank w := fun W x _ _ => text_blank_c x W
  have HP := Lib.hid hp; clear hp
  go_enter Tryd.func33, Tryd.ntmps33
  go_wp2_with (first
    | (go_at_call 44; refine (Tryd.strings_FieldsFunc_grows 45 #[] text_blank_enters Tx.blank s _ (by omega) HP.out).mono ?_; rintro e w1 ⟨A, rfl, hA, hown, hb1⟩)
    | (go_at_call 24; refine (Tryd.strings_Join A 0 _ (Lib.goFieldsP Tx.blank s) ⟨#[32]⟩ _ (Tx.own_cells hown) (Tx.own_lt hown) (by omega) (Nat.le_refl _) (by rw [HE.out]; omega)).mono ?_; rintro e w2 ⟨rfl, hb2⟩))
  go_ret
  exact ⟨Tx.rets (by rw [HE.out]), hb1.trans (hb2.mono hb1.size)⟩

set_option maxHeartbeats 800000 in
theorem text_Valid_c (s : ByteArray) (w : World) (hs : s.size ≤ 9223372036854775000) (hG : G w) :
    Calls Tryd.prog 32 #[.string s] w fun e w' => e = .returned (.bool (Tx.valid s.data.toList)) ∧ Below w.heap.size w w' := by
  have hT := hG.u
  have hve := Tx.valid_two s.data.toList.length s.data.toList (Nat.le_refl _)
  cases hvd : Lib.validD s.data.toList with
  | false =>
    rw [hvd] at hve
    have HE : Hid (Tx.valid s.data.toList = false) := Lib.hid (by rw [← hve]; rfl)
    clear hve
    have HD := Lib.hid hvd; clear hvd
    go_enter Tryd.func32, Tryd.ntmps32
    go_wp2_with (go_at_call 43; refine (Any.utf8_ValidString Tryd.lays196 s _ (by omega) hT).mono ?_; rintro e w1 ⟨rfl, hb1⟩; rw [HD.out])
    go_ret
    exact ⟨Tx.retb (by rw [HE.out]), hb1⟩
  | true =>
    rw [hvd, Bool.true_and] at hve
    have HE := Lib.hid hve; clear hve
    have HD := Lib.hid hvd; clear hvd
    go_enter Tryd.func32, Tryd.ntmps32
    go_wp2_with (go_at_call 43; refine (Any.utf8_ValidString Tryd.lays196 s _ (by omega) hT).mono ?_; rintro e w1 ⟨rfl, hb1⟩; rw [HD.out])
    go_loopg [4] s.size (fun gf _ wx => ∃ (pos : Nat), pos ≤ s.size ∧ s.size ≤ pos + gf ∧ wx.heap[w1.heap.size]? = some (.stringIter s pos) ∧ Below w.heap.size w wx ∧ Hid (Tx.rangeOk (s.data.toList.drop pos).length (s.data.toList.drop pos) = Tx.valid s.data.toList))
    case atStart => exact ⟨0, Nat.zero_le _, by omega, World.iter_heap w1 s 0, hb1.alloc hb1.size _, Lib.hid (by rw [List.drop_zero]; exact HE.out)⟩
    case round =>
      obtain ⟨pos, hps, hfu, hit, hbw, hR⟩ := hrel
      by_cases hlt : pos < s.size
      · obtain ⟨g', rfl⟩ : ∃ g', gk = g' + 1 := ⟨gk - 1, by omega⟩
        have hnx : ∀ ty, (Instr.next (.pointer (some ⟨w1.heap.size, 0, none⟩)) true ty).run Tryd.prog wr = _ := fun ty => Lib.run_next_any_at wr w1.heap.size s pos ty hit hlt
        have hne : s.data.toList.drop pos ≠ [] := Tx.drop_ne (by rw [← Lib.size_eq]; exact hlt)
        have hwl : (Lib.decodeL (s.data.toList.drop pos)).2 ≤ s.size - pos := by
          rw [Lib.decodeL_N]
          have := Lib.decodeN_le_n' (s.data.toList.drop pos).length ((s.data.toList.drop pos).getD 0 0).toNat ((s.data.toList.drop pos).getD 1 0).toNat ((s.data.toList.drop pos).getD 2 0).toNat ((s.data.toList.drop pos).getD 3 0).toNat (by rw [List.length_drop, ← Lib.size_eq]; omega)
          rw [List.length_drop, ← Lib.size_eq] at this
          rw [List.length_drop, ← Lib.size_eq]
          exact this
        have hwd := Lib.decodeL_width (s.data.toList.drop pos)
        have hru := Lib.decodeL_rune (s.data.toList.drop pos)
        have hst := Tx.rangeOk_step hne
        rw [List.drop_drop, hR.out] at hst
        rw [Lib.decodeL_drop] at hwl hwd hru hst
        obtain ⟨R, hR1⟩ : ∃ R, (Utf8.decode s pos).1 = R := ⟨_, rfl⟩
        obtain ⟨K, hK1⟩ : ∃ K, (Utf8.decode s pos).2 = K := ⟨_, rfl⟩
        rw [hR1, hK1] at hnx
        rw [hR1, hK1] at hst
        rw [hK1] at hwl hwd
        rw [hR1] at hru
        have hit2 := Lib.iterAt_heap wr w1.heap.size s pos (pos + K) hit
        have hbw2 := Lib.below_iterAt hbw (k := w1.heap.size) hb1.size s (pos + K)
        obtain ⟨W, hWd⟩ : ∃ W, wr.iterAt w1.heap.size s (pos + K) = W := ⟨_, rfl⟩
        rw [hWd] at hnx hit2 hbw2
        have HS := Lib.hid hst; clear hst hne hit hbw hR hWd hR1 hK1
        have HI := Lib.hid hit2; clear hit2
        by_cases c1 : R < 32
        · go_wp2
          go_ret
          exact ⟨Tx.retb (by rw [HS.out, if_pos (by omega)]), hbw2⟩
        · by_cases c2 : 127 ≤ R ∧ R ≤ 159
          · obtain ⟨c2, c3⟩ := c2
            go_wp2
            go_ret
            exact ⟨Tx.retb (by rw [HS.out, if_pos (by omega)]), hbw2⟩
          · by_cases c4 : 65535 < R
            · by_cases c5 : 127 ≤ R
              · have c6 : 159 < R := by omega
                go_wp2
                go_ret
                exact ⟨Tx.retb (by rw [HS.out, if_pos (by omega)]), hbw2⟩
              · omega
            · by_cases c5 : 127 ≤ R
              · have c6 : 159 < R := by omega
                go_wp2
                go_roundg g'
                case measure => omega
                case rel => exact ⟨pos + K, by omega, by omega, HI.out, hbw2, Lib.hid (by rw [HS.out, if_neg (by omega)])⟩
              · have c6 : R < 127 := by omega
                go_wp2
                go_roundg g'
                case measure => omega
                case rel => exact ⟨pos + K, by omega, by omega, HI.out, hbw2, Lib.hid (by rw [HS.out, if_neg (by omega)])⟩
      · obtain rfl : pos = s.size := by omega
        have hnx : ∀ ty, (Instr.next (.pointer (some ⟨w1.heap.size, 0, none⟩)) true ty).run Tryd.prog wr = _ := fun ty => Lib.run_next_end_at wr w1.heap.size s s.size ty hit hlt
        have hnil : s.data.toList.drop s.size = [] := List.drop_eq_nil_of_le (by rw [← Lib.size_eq]; omega)
        have HF : Hid (Tx.valid s.data.toList = true) := Lib.hid (by rw [← hR.out, hnil]; rfl)
        clear hR hnil hit
        go_wp2
        go_ret
        exact ⟨Tx.retb (by rw [HF.out]), hbw⟩

end Go.Proofs.YtbacgfokgphgeaaDoor
