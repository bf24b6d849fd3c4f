/- Plain: texts divided, headings, names; no program stands in this file. -/
import Derived.Test.YtogpghpgnpoioaaGreatDoorKf
import Derived.Lib.Split
import Derived.Lib.IndexMore
import Derived.Lib.RuneBytes
import Derived.Test.YtogpghpgnpoioaaGreatDoorKb
import Derived.Shelf.Strings.BuilderK
import Derived.Shelf.Strings.BuilderRune
import Derived.Lib.OthersKept
namespace Go.Proofs.YtogpghpgnpoioaaGreatDoor
namespace Hd
open Go.Lib Rc

theorem split_miss {s sep : By} (h : index s sep = -1) : split s sep = [s] := by
  unfold split
  rw [count_miss h]
  rfl
theorem split_hit {s sep : By} {i : Nat} (hs : sep ≠ []) (h : index s sep = i) : split s sep = s.take i :: split (s.drop (i + sep.length)) sep := by
  unfold split
  rw [count_hit hs h, Nat.add_comm]
  have hm : ¬ (index s sep == -1) = true := fun e => by have := beq_iff_eq.1 e; omega
  rw [splitK, if_neg hm]
  have e : (index s sep).toNat = i := by omega
  rw [e, Nat.add_zero]
theorem split_ne (s sep : By) : split s sep ≠ [] := by
  unfold split
  cases count s sep with
  | zero => simp [splitK]
  | succ n => unfold splitK; split <;> simp
/-- Does a text contain another one? -/
theorem split_len {s sep : By} (hs : sep ≠ []) : (1 < (split s sep).length) = (contains s sep = true) := by
  rcases (show index s sep = -1 ∨ 0 ≤ index s sep by have := index_ge s sep; omega) with h | h
  · rw [split_miss h]
    simp [contains, h]
  · obtain ⟨i, hi⟩ : ∃ i : Nat, index s sep = i := ⟨(index s sep).toNat, by omega⟩
    rw [split_hit hs hi]
    have := List.length_pos_iff.2 (split_ne (s.drop (i + sep.length)) sep)
    simp [contains, h, this]
/-- A text cut at a sign is two texts. -/
theorem valid_cut {c : UInt8} (hc : 32 ≤ c.toNat ∧ c.toNat < 127) : ∀ (n : Nat) (w r : By), w.length ≤ n → Tx.valid (w ++ c :: r) = true → Tx.valid w = true ∧ Tx.valid (c :: r) = true
  | 0, w, r, hn, hv => by
    have : w = [] := List.eq_nil_of_length_eq_zero (by omega)
    subst this
    exact ⟨rfl, hv⟩
  | n + 1, w, r, hn, hv => by
    by_cases hw : w = []
    · subst hw; exact ⟨rfl, hv⟩
    · have hne : w ++ c :: r ≠ [] := by simp
      obtain ⟨hz, _, hwd, hv2, _⟩ := Tx.valid_head hne hv
      have hle := Tx.rdec_le hne
      have hwl : 0 < w.length := List.length_pos_iff.2 hw
      have hk : (Tx.rdec (w ++ c :: r)).2 ≤ w.length := by
        rcases Nat.lt_or_ge w.length (Tx.rdec (w ++ c :: r)).2 with h9 | h9
        · exfalso
          have hcc : (w ++ c :: r).getD w.length 0 = c := by simp [List.getD_eq_getElem?_getD]
          unfold Tx.rdec Tx.rdecN at h9
          split at h9
          · have h8 : w.length < 1 := h9
            omega
          · split at h9
            · rename_i hq
              split at h9
              · have h7 : w.length < 2 := h9
                have : w.length = 1 := by omega
                rw [this] at hcc
                rw [hcc] at hq
                omega
              · exact absurd h9 (Nat.not_lt_zero _)
            · split at h9
              · rename_i hq
                split at h9
                · have h7 : w.length < 3 := h9
                  have : w.length = 1 ∨ w.length = 2 := by omega
                  rcases this with h8 | h8
                  · rw [h8] at hcc; rw [hcc] at hq; omega
                  · rw [h8] at hcc; rw [hcc] at hq; omega
                · exact absurd h9 (Nat.not_lt_zero _)
              · exact absurd h9 (Nat.not_lt_zero _)
        · exact h9
      have hrd : Tx.rdec w = Tx.rdec (w ++ c :: r) := by
        have h1 := Tx.rdec_head hne hz
        rw [List.take_append_of_le_length hk] at h1
        have hpn : w.take (Tx.rdec (w ++ c :: r)).2 ≠ [] := by
          intro h0
          have := congrArg List.length h0
          rw [List.length_take, List.length_nil] at this
          omega
        have h2 := rdec_append (a := w.take (Tx.rdec (w ++ c :: r)).2) (w.drop (Tx.rdec (w ++ c :: r)).2) hpn (by rw [h1]; exact hz)
        rw [List.take_append_drop] at h2
        rw [h2, h1]
      rw [hwd] at hv2
      rw [List.drop_append_of_le_length hk] at hv2
      obtain ⟨h3, h4⟩ := valid_cut hc n (w.drop (Tx.rdec (w ++ c :: r)).2) r (by rw [List.length_drop]; omega) hv2
      refine ⟨?_, h4⟩
      rw [Tx.valid_step hw, hrd, if_neg hz]
      exact h3
/-- The same where a text begins with signs. -/
theorem valid_tail : ∀ (p r : By), (∀ c ∈ p, 32 ≤ c.toNat ∧ c.toNat < 127) → Tx.valid (p ++ r) = true → Tx.valid r = true
  | [], r, _, h => h
  | c :: p, r, hp, h => by
    have hc := hp c (by simp)
    rw [List.cons_append, Tx.valid_step (by simp), Tx.rdec_asc _ hc, if_neg (show ¬ (c.toNat, 1).2 = 0 by simp)] at h
    exact valid_tail p r (fun x hx => hp x (by simp [hx])) h
theorem valid_parts {a sep b : By} (hs : sep ≠ []) (hc : ∀ c ∈ sep, 32 ≤ c.toNat ∧ c.toNat < 127) (hv : Tx.valid (a ++ sep ++ b) = true) : Tx.valid a = true ∧ Tx.valid b = true := by
  cases sep with
  | nil => exact absurd rfl hs
  | cons c t =>
    rw [List.append_assoc, List.cons_append] at hv
    obtain ⟨h1, h2⟩ := valid_cut (hc c (by simp)) a.length a (t ++ b) (Nat.le_refl _) hv
    refine ⟨h1, valid_tail (c :: t) b hc ?_⟩
    simpa using h2
theorem index_at {s sep : By} {i : Nat} (h : index s sep = i) : s = s.take i ++ sep ++ s.drop (i + sep.length) := by
  have ho : occAt s sep i = true := by
    rcases index_spec s sep with ⟨h1, _⟩ | ⟨k, h1, _, h3, _⟩
    · omega
    · obtain rfl : k = i := by omega
      exact h3
  unfold occAt at ho
  rw [List.isPrefixOf_iff_prefix] at ho
  obtain ⟨t, ht⟩ := ho
  have h1 : s = s.take i ++ s.drop i := (List.take_append_drop i s).symm
  rw [← ht] at h1
  have h2 : s.drop (i + sep.length) = t := by rw [← List.drop_drop, ← ht]; simp
  rw [h2, List.append_assoc]
  exact h1
theorem split_valid {sep : By} (hs : sep ≠ []) (hc : ∀ c ∈ sep, 32 ≤ c.toNat ∧ c.toNat < 127) : ∀ (n : Nat) (s : By), s.length ≤ n → Tx.valid s = true → ∀ p ∈ split s sep, Tx.valid p = true ∧ p.length ≤ s.length
  | n, s, hn, hv, p, hp => by
    rcases (show index s sep = -1 ∨ 0 ≤ index s sep by have := index_ge s sep; omega) with h | h
    · rw [split_miss h, List.mem_singleton] at hp
      rw [hp]
      exact ⟨hv, Nat.le_refl _⟩
    · obtain ⟨i, hi⟩ : ∃ i : Nat, index s sep = i := ⟨(index s sep).toNat, by omega⟩
      have hat := index_at hi
      have hl := congrArg List.length hat
      simp only [List.length_append] at hl
      have hsl : 0 < sep.length := List.length_pos_iff.2 hs
      rw [hat] at hv
      obtain ⟨h1, h2⟩ := valid_parts hs hc hv
      rw [split_hit hs hi, List.mem_cons] at hp
      rcases hp with hp | hp
      · rw [hp]; exact ⟨h1, by rw [List.length_take]; omega⟩
      · cases n with
        | zero => omega
        | succ n =>
          have := split_valid hs hc n (s.drop (i + sep.length)) (by omega) h2 p hp
          exact ⟨this.1, by omega⟩
theorem split_count {sep : By} (hs : sep ≠ []) : ∀ (n : Nat) (s : By), s.length ≤ n → (split s sep).length ≤ s.length + 1
  | n, s, hn => by
    rcases (show index s sep = -1 ∨ 0 ≤ index s sep by have := index_ge s sep; omega) with h | h
    · rw [split_miss h]; simp
    · obtain ⟨i, hi⟩ : ∃ i : Nat, index s sep = i := ⟨(index s sep).toNat, by omega⟩
      have hat := index_at hi
      have hl := congrArg List.length hat
      simp only [List.length_append] at hl
      have hsl : 0 < sep.length := List.length_pos_iff.2 hs
      rw [split_hit hs hi, List.length_cons]
      cases n with
      | zero => omega
      | succ n =>
        have := split_count hs n (s.drop (i + sep.length)) (by omega)
        omega

/-! ### headings -/
def parts (s : By) : List By := ((split s [45, 45]).map Tx.clean).filter fun p => p != []
def norm (s : By) : By := join (((parts s).map fun p => join (Tx.words p) [32]).filter fun p => p != []) [45, 45]
def digB (c : UInt8) : Bool := decide (48 ≤ c.toNat ∧ c.toNat ≤ 57)
/-- Dates: four digits and a hyphen, and four digits more if there are any. -/
def dates : By → Bool
  | [a, b, c, d, e] => digB a && digB b && digB c && digB d && e == 45
  | [a, b, c, d, e, f, g, h, i] => digB a && digB b && digB c && digB d && e == 45 && digB f && digB g && digB h && digB i
  | _ => false
end Hd
end Go.Proofs.YtogpghpgnpoioaaGreatDoor

/- Plain: a character of a text written again; the table of accents; no program stands in this file. -/
namespace Go.Proofs.YtogpghpgnpoioaaGreatDoor
namespace Tx
open Go.Lib Rc
theorem take2 {l : By} (h : 2 ≤ l.length) : l.take 2 = [l.getD 0 0, l.getD 1 0] := by
  match l, h with
  | a :: b :: r, _ => rfl
theorem take3 {l : By} (h : 3 ≤ l.length) : l.take 3 = [l.getD 0 0, l.getD 1 0, l.getD 2 0] := by
  match l, h with
  | a :: b :: c :: r, _ => rfl
theorem take1 {l : By} (h : 1 ≤ l.length) : l.take 1 = [l.getD 0 0] := by
  match l, h with
  | a :: r, _ => rfl
theorem byte_of {n : Int} {b : UInt8} (h : n = b.toNat) : n.toNat.toUInt8 = b := by
  subst h
  simp
/-- A character that is read and written stands as it stood. -/
theorem enc_head {l : By} (hne : l ≠ []) (h : (rdec l).2 ≠ 0) : encodeRune ((rdec l).1 : Int) = l.take (rdec l).2 := by
  have hl : 0 < l.length := List.length_pos_iff.2 hne
  have b0 := UInt8.toNat_lt (l.getD 0 0)
  have b1 := UInt8.toNat_lt (l.getD 1 0)
  have b2 := UInt8.toNat_lt (l.getD 2 0)
  unfold rdec rdecN at h ⊢
  by_cases ha : 32 ≤ (l.getD 0 0).toNat ∧ (l.getD 0 0).toNat < 127
  · simp only [if_pos ha] at h ⊢
    rw [take1 (by omega)]
    unfold encodeRune
    rw [encodeRuneZ_one (by omega) (by omega)]
    simp
  · simp only [if_neg ha] at h ⊢
    by_cases hb : 194 ≤ (l.getD 0 0).toNat ∧ (l.getD 0 0).toNat < 224 ∧ 1 < l.length ∧ 128 ≤ (l.getD 1 0).toNat ∧ (l.getD 1 0).toNat < 192
    · simp only [if_pos hb] at h ⊢
      by_cases hc : 160 ≤ ((l.getD 0 0).toNat - 192) * 64 + (l.getD 1 0).toNat - 128
      · simp only [if_pos hc] at h ⊢
        rw [take2 (by omega)]
        unfold encodeRune
        rw [encodeRuneZ_two (by omega) (by omega)]
        simp only [List.map_cons, List.map_nil]
        rw [byte_of (b := l.getD 0 0) (by omega), byte_of (b := l.getD 1 0) (by omega)]
      · simp only [if_neg hc] at h
        exact absurd rfl h
    · simp only [if_neg hb] at h ⊢
      by_cases hd : 224 ≤ (l.getD 0 0).toNat ∧ (l.getD 0 0).toNat < 240 ∧ 2 < l.length ∧ 128 ≤ (l.getD 1 0).toNat ∧ (l.getD 1 0).toNat < 192 ∧ 128 ≤ (l.getD 2 0).toNat ∧ (l.getD 2 0).toNat < 192
      · simp only [if_pos hd] at h ⊢
        split at h
        · rename_i hq
          simp only [if_pos hq]
          rw [take3 (by omega)]
          unfold encodeRune
          rw [encodeRuneZ_three (by omega)]
          simp only [List.map_cons, List.map_nil]
          rw [byte_of (b := l.getD 0 0) (by omega), byte_of (b := l.getD 1 0) (by omega), byte_of (b := l.getD 2 0) (by omega)]
        · exact absurd rfl h
      · simp only [if_neg hd] at h
        exact absurd rfl h
/-- The program's text of replacements. -/
def accL : By := [97, 44, 97, 44, 97, 44, 97, 44, 97, 44, 97, 44, 97, 101, 44, 99, 44, 101, 44, 101, 44, 101, 44, 101, 44, 105, 44, 105, 44, 105, 44, 105, 44, 100, 44, 110, 44, 111, 44, 111, 44, 111, 44, 111, 44, 111, 44, 44, 111, 44, 117, 44, 117, 44, 117, 44, 117, 44, 121, 44, 116, 104, 44, 115, 115, 44, 97, 44, 97, 44, 97, 44, 97, 44, 97, 44, 97, 44, 97, 101, 44, 99, 44, 101, 44, 101, 44, 101, 44, 101, 44, 105, 44, 105, 44, 105, 44, 105, 44, 100, 44, 110, 44, 111, 44, 111, 44, 111, 44, 111, 44, 111, 44, 44, 111, 44, 117, 44, 117, 44, 117, 44, 117, 44, 121, 44, 116, 104, 44, 121]
theorem acc_split : split accL [44] = (List.range 64).map fun k => foldC (192 + k) := by decide +kernel
theorem acc_count : count accL [44] = 63 := by decide +kernel
theorem foldP_up {q : By} {c : Nat} (h : 65 ≤ c ∧ c ≤ 90) : foldP q c = [UInt8.ofNat (c + 32)] := by
  unfold foldP foldC
  rw [if_pos h, if_neg (by simp)]
theorem foldP_tab {q : By} {c : Nat} (hne : foldC c ≠ []) : foldP q c = foldC c := by unfold foldP; rw [if_neg hne]
theorem foldP_same {q : By} {c : Nat} (he : foldC c = []) : foldP q c = q := by unfold foldP; rw [if_pos he]
theorem foldC_out {c : Nat} (h1 : ¬ (65 ≤ c ∧ c ≤ 90)) (h : c < 192 ∨ 255 < c) : foldC c = [] := by
  unfold foldC
  rw [if_neg h1, if_pos (by omega)]
theorem enc_up {c : Nat} (h : 65 ≤ c ∧ c ≤ 90) : encodeRune ((c + 32 : Nat) : Int) = [UInt8.ofNat (c + 32)] := by
  unfold encodeRune
  rw [encodeRuneZ_one (by omega) (by omega)]
  simp only [List.map_cons, List.map_nil]
  rfl
end Tx
end Go.Proofs.YtogpghpgnpoioaaGreatDoor

/- The kit's contracts of strings.Builder, laid at this translation by hand (the kit's own tool passes them over: a type is named in none of their bodies). -/
namespace Go.Proofs.YtogpghpgnpoioaaGreatDoor
open Go.Shelf Go.RowKit

def renB : Go.Shelf.Ren := ⟨fun
  | 166 => 78
  | 168 => 133 | 169 => 79 | 240 => 130 | 242 => 162 | 276 => 159 | 278 => 178 | n => n,
  fun | 0 => 0 | 3 => 3 | 4 => 4 | 5 => 5 | 9 => 9 | 20 => 20 | 21 => 21 | 37 => 99 | 46 => 94 | 51 => 129 | 70 => 98 | 72 => 101 | 75 => 104 | 76 => 105 | 80 => 107 | 164 => 182 | n => n, fun | n => n⟩
theorem layB166 : Go.Proofs.Lays.n166 Tryz.prog renB := by constructor <;> first | kernel_rfl | (intro w; kernel_rfl)
theorem layB168 : Go.Proofs.Lays.n168 Tryz.prog renB := by constructor <;> first | kernel_rfl | (intro w; kernel_rfl)
theorem extraB : Builder.Extra Tryz.prog renB where
  sizeBuilder := by kernel_rfl
  liesBuilder := by kernel_rfl
  t5 := by kernel_rfl
  a5 := fun w => by kernel_rfl
  z5 := fun w => by kernel_rfl
  v5 := fun w => by kernel_rfl
  infoByte := by kernel_rfl
  cellsByte := by kernel_rfl
  sizeByte := by kernel_rfl
  neB5 := by decide

/-- The builder holds these bytes. -/
abbrev BIs (B b : Nat) (l : List UInt8) (w : World) : Prop := Lib.IsBuilderF 101 5 B b (Lib.byteCells l) w
theorem bc_app (a b : List UInt8) : Lib.byteCells a ++ Lib.byteCells b = Lib.byteCells (a ++ b) := by unfold Lib.byteCells; rw [List.map_append]
theorem bc_len (a : List UInt8) : (Lib.byteCells a).length = a.length := by unfold Lib.byteCells; rw [List.length_map]
theorem WriteString_c (B b : Nat) (l : List UInt8) (s : ByteArray) (w : World) (h : BIs B b l w) (hlen : l.length + s.size ≤ 140737488355328) (hBw : B ≤ w.heap.size) :
    Calls Tryz.prog 78 #[.pointer (some ⟨b, 0, none⟩), .string s] w fun e w' => e = .returned (.tuple #[.int .i64 s.size, .nilIface]) ∧ BIs B b (l ++ s.data.toList) w' ∧ Below B w w' ∧ Lib.OthersKept 5 (some b) w w' :=
  Calls.mono (Any.Builder_WriteString_k layB166 extraB B b (Lib.byteCells l) s w h (by rw [bc_len]; exact hlen) hBw) fun e w' ⟨he, h1, h2, h3⟩ => ⟨he, .inr (by rw [← bc_app]; exact h1), h2, h3⟩
theorem WriteRune_c (B b : Nat) (l : List UInt8) (r : Nat) (hr : r ≤ 65535) (w : World) (h : BIs B b l w) (hlen : l.length + 4 ≤ 140737488355328) (hBw : B ≤ w.heap.size) :
    Calls Tryz.prog 133 #[.pointer (some ⟨b, 0, none⟩), .int .i32 r] w fun e w' => (∃ n, e = .returned (.tuple #[.int .i64 n, .nilIface])) ∧ BIs B b (l ++ Lib.encodeRune r) w' ∧ Below B w w' ∧ Lib.OthersKept 5 (some b) w w' :=
  Calls.mono (Any.Builder_WriteRune_k layB168 extraB B b (Lib.byteCells l) r (by omega) (by omega) w h (by rw [bc_len]; exact hlen) hBw) fun e w' ⟨he, h1, h2, h3⟩ => ⟨⟨_, he⟩, .inr (by rw [← bc_app, Lib.byteCells_encodeRune]; exact h1), h2, h3⟩
end Go.Proofs.YtogpghpgnpoioaaGreatDoor

/- The program's Fold and Words of a text: what the calls return. -/
namespace Go.Proofs.YtogpghpgnpoioaaGreatDoor
open Go.RowKit
set_option maxRecDepth 100000

theorem WriteRuneI_c (B b : Nat) (l : List UInt8) (r : Int) (h0 : 0 ≤ r) (hr : r ≤ 65535) (w : World) (h : BIs B b l w) (hlen : l.length + 4 ≤ 140737488355328) (hBw : B ≤ w.heap.size) :
    Calls Tryz.prog 133 #[.pointer (some ⟨b, 0, none⟩), .int .i32 r] w fun e w' => (∃ n, e = .returned (.tuple #[.int .i64 n, .nilIface])) ∧ BIs B b (l ++ Lib.encodeRune r) w' ∧ Below B w w' ∧ Lib.OthersKept 5 (some b) w w' := by
  obtain ⟨n, rfl⟩ := Int.eq_ofNat_of_zero_le h0
  exact WriteRune_c B b l n (by omega) w h hlen hBw

theorem Split_acc_c (s : ByteArray) (w : World) (hs : s.data.toList = Tx.accL) (hG : G w) :
    Calls Tryz.prog 132 #[.string s, .string ⟨#[44]⟩] w fun e w' => e = .returned (.slice (some ⟨w.heap.size, 0, none⟩) 64 64) ∧ (∀ k, k < 64 → w'.cell? ⟨w.heap.size, k, none⟩ = some (.string ⟨(Tx.foldC (192 + k)).toArray⟩)) ∧ Below w.heap.size w w' ∧ w.heap.size < w'.heap.size := by
  obtain ⟨m, hm⟩ := hG.m
  have hc : Lib.countB s ⟨#[44]⟩ = 63 := by
    unfold Lib.countB
    rw [hs]
    exact Tx.acc_count
  have hsz : s.size = 189 + 0 ∨ s.size < 4294967281 := by
    rw [Lib.size_eq, hs]
    exact .inr (by decide +kernel)
  refine (Tryz.strings_Split s ⟨#[44]⟩ m w (by omega) hm (by decide)).mono fun e w' ⟨he, hw⟩ => ?_
  rw [hc] at he hw
  have hd := Lib.splitB_data (⟨#[44]⟩ : ByteArray) 0 63 s
  have h63 : Lib.splitK [44] 0 63 Tx.accL = (List.range 64).map fun k => Tx.foldC (192 + k) := by
    have := Tx.acc_split
    unfold Lib.split at this
    rw [Tx.acc_count] at this
    exact this
  rw [hs] at hd
  have hd2 := hd.trans h63
  subst hw
  refine ⟨he, fun k hk => ?_, Tx.newb _ _, by simp⟩
  have h1 := cell_of_row (w.alloc (.cells ((Lib.splitB (⟨#[44]⟩ : ByteArray) 0 63 s).map Value.string).toArray 9)) w.heap.size k _ _ (0, 0) (heap_alloc_new w _)
  rw [h1, List.getElem?_toArray, List.getElem?_map]
  have h2 := congrArg (·[k]?) hd2
  simp only [List.getElem?_map] at h2
  rw [List.getElem?_range hk, Option.map_some, Option.map_eq_some_iff] at h2
  obtain ⟨x, hx, e2⟩ := h2
  rw [hx, ← e2]
  rfl

set_option maxHeartbeats 3200000 in
theorem text_Fold_c (s : ByteArray) (w : World) (hG : G w) (hs : s.size ≤ 1000000000) (hv : Tx.valid s.data.toList = true) :
    Calls Tryz.prog 81 #[.string s] w fun e w' => e = .returned (.string ⟨(Tx.foldS s.data.toList).toArray⟩) ∧ Below w.heap.size w w' := by
  obtain ⟨F, hF⟩ : ∃ F, Tx.foldS s.data.toList = F := ⟨_, rfl⟩
  have HF := Lib.hid hF; clear hF
  have HV := Lib.hid hv; clear hv
  go_enter Tryz.func81, Tryz.ntmps81
  go_wp2_with (go_at_call 132; refine (Split_acc_c _ _ (by decide +kernel) hG).mono ?_; rintro e w1 ⟨rfl, hpl, hb1, hlt1⟩)
  have HPL := Lib.hid hpl; clear hpl
  go_loopw [6] (fun _ wr => ∃ (pos : Nat) (out : List UInt8), pos ≤ s.size ∧ BIs w1.heap.size w1.heap.size out wr ∧ wr.heap[w1.heap.size + 1]? = some (.stringIter s pos) ∧ Below w1.heap.size w1 wr ∧ Hid (Tx.foldT Tx.foldStep out (s.data.toList.drop pos) = F) ∧ Hid (Tx.valid (s.data.toList.drop pos) = true) ∧ out.length ≤ 2 * pos) (fun _ wr => s.size - wr.iterPos (w1.heap.size + 1))
  case atStart =>
    refine ⟨0, [], Nat.zero_le _, (Lib.IsBuilderF.of (Lib.fresh_isBuilder 101 5 w1)).alloc _, ?_, (Tx.newb _ _).alloc (by simp) _, Lib.hid (by rw [List.drop_zero]; exact HF.out), Lib.hid (by rw [List.drop_zero]; exact HV.out), by simp⟩
    have := World.iter_heap (w1.alloc (.cells #[.pointer none, .slice none 0 0] 101)) s 0
    simpa using this
  case round =>
    obtain ⟨pos, out, hps, hI, hit, hbw, hFo, hVp, hol⟩ := hrel
    have hsz : w1.heap.size + 1 < wr.heap.size := (Array.getElem?_eq_some_iff.1 hit).1
    by_cases hp : pos < s.size
    · have hnx : ∀ ty, (Instr.next (.pointer (some ⟨w1.heap.size + 1, 0, none⟩)) true ty).run Tryz.prog wr = _ := fun ty => Lib.run_next_any_at wr (w1.heap.size + 1) s pos ty hit hp
      have hne : s.data.toList.drop pos ≠ [] := Tx.drop_ne (by rw [← Lib.size_eq]; exact hp)
      obtain ⟨hz, hd, hw, hv2, _⟩ := Tx.valid_head hne hVp.out
      have hdec : Utf8.decode s pos = Tx.rdec (s.data.toList.drop pos) := by rw [← Lib.decodeL_drop, hd]
      have hle := Tx.wid_le hne
      have hwp := Tx.wid_pos (s.data.toList.drop pos)
      rw [List.length_drop, ← Lib.size_eq] at hle
      have hen := Tx.enc_head hne hz
      have hru := Tx.rdec_rune (s.data.toList.drop pos)
      have hst := Tx.foldT_step Tx.foldStep out hne
      rw [hFo.out, List.drop_drop] at hst
      rw [List.drop_drop] at hv2
      rw [← hw] at hen
      rw [hdec, ← hw] at hnx
      generalize hK : Tx.wid (s.data.toList.drop pos) = K at hle hwp hst hv2 hen hnx
      generalize hR : (Tx.rdec (s.data.toList.drop pos)).1 = R at hru hst hen hnx
      obtain ⟨q, hq⟩ : ∃ q, (s.data.toList.drop pos).take K = q := ⟨_, rfl⟩
      have hql : q.length ≤ K := by rw [← hq]; exact List.length_take_le _ _
      rw [hq] at hst hen
      unfold Tx.foldStep at hst
      have hI2 := hI.iterAt hit (pos + K)
      have hit2 := Lib.iterAt_heap wr (w1.heap.size + 1) s pos (pos + K) hit
      have hbw2 := Lib.below_iterAt hbw (k := w1.heap.size + 1) (by omega) s (pos + K)
      have hsz2 : w1.heap.size ≤ (wr.iterAt (w1.heap.size + 1) s (pos + K)).heap.size := by rw [Lib.iterAt_size]; omega
      obtain ⟨W, hWd⟩ : ∃ W, wr.iterAt (w1.heap.size + 1) s (pos + K) = W := ⟨_, rfl⟩
      rw [hWd] at hnx hit2 hbw2 hI2 hsz2
      have HIT := Lib.hid hit
      have HI := Lib.hid hit2
      have HEN := Lib.hid hen
      have HV2 : Hid (Tx.valid (s.data.toList.drop (pos + K)) = true) := Lib.hid hv2
      clear hne hz hd hw hv2 hdec hit hI hbw hFo hVp hWd hit2 hq hen hK hR
      by_cases hup : 65 ≤ R ∧ R ≤ 90
      · rw [Tx.foldP_up hup] at hst
        have heu := Tx.enc_up hup
        have HS : Hid (Tx.foldT Tx.foldStep (out ++ [UInt8.ofNat (R + 32)]) (s.data.toList.drop (pos + K)) = F) := Lib.hid hst.symm
        have HEU := Lib.hid heu
        clear hst heu
        obtain ⟨g1, g2⟩ := hup
        go_wp2_with (go_at_call 133; refine (WriteRuneI_c w1.heap.size w1.heap.size out _ (by omega) (by omega) _ hI2 (by omega) hsz2).mono ?_; rintro e w3 ⟨⟨n, rfl⟩, hI3, hb3, k3⟩)
        have hI4 : BIs w1.heap.size w1.heap.size (out ++ [UInt8.ofNat (R + 32)]) w3 := by
          rw [← HEU.out]
          have e1 : ((R + 32 : Nat) : Int) = (R : Int) + 97 - 65 := by omega
          rw [e1]
          exact hI3
        go_roundw
        case rel => exact ⟨pos + K, out ++ [UInt8.ofNat (R + 32)], by omega, hI4, k3.iter HI.out (by omega), hbw2.trans hb3, HS, HV2, by simp; omega⟩
        case measure => simp only [World.iterPos, k3.iter HI.out (by omega), HIT.out]; omega
      · by_cases htab : Tx.foldC R = []
        · rw [Tx.foldP_same htab] at hst
          have HS : Hid (Tx.foldT Tx.foldStep (out ++ q) (s.data.toList.drop (pos + K)) = F) := Lib.hid hst.symm
          clear hst
          rcases (show R < 65 ∨ (65 ≤ R ∧ 90 < R ∧ R < 192) ∨ (192 ≤ R ∧ 256 ≤ R) ∨ (192 ≤ R ∧ R < 256) by omega) with g | ⟨g1, g2, g3⟩ | ⟨g1, g2⟩ | ⟨g1, g2⟩
          · clear htab hup
            go_wp2_with (go_at_call 133; refine (WriteRuneI_c w1.heap.size w1.heap.size out _ (by omega) (by omega) _ hI2 (by omega) hsz2).mono ?_; rintro e w3 ⟨⟨n, rfl⟩, hI3, hb3, k3⟩)
            rw [HEN.out] at hI3
            go_roundw
            case rel => exact ⟨pos + K, out ++ q, by omega, hI3, k3.iter HI.out (by omega), hbw2.trans hb3, HS, HV2, by simp; omega⟩
            case measure => simp only [World.iterPos, k3.iter HI.out (by omega), HIT.out]; omega
          · clear htab hup
            go_wp2_with (go_at_call 133; refine (WriteRuneI_c w1.heap.size w1.heap.size out _ (by omega) (by omega) _ hI2 (by omega) hsz2).mono ?_; rintro e w3 ⟨⟨n, rfl⟩, hI3, hb3, k3⟩)
            rw [HEN.out] at hI3
            go_roundw
            case rel => exact ⟨pos + K, out ++ q, by omega, hI3, k3.iter HI.out (by omega), hbw2.trans hb3, HS, HV2, by simp; omega⟩
            case measure => simp only [World.iterPos, k3.iter HI.out (by omega), HIT.out]; omega
          · clear htab hup
            have g65 : 65 ≤ R := by omega
            have g90 : 90 < R := by omega
            go_wp2_with (go_at_call 133; refine (WriteRuneI_c w1.heap.size w1.heap.size out _ (by omega) (by omega) _ hI2 (by omega) hsz2).mono ?_; rintro e w3 ⟨⟨n, rfl⟩, hI3, hb3, k3⟩)
            rw [HEN.out] at hI3
            go_roundw
            case rel => exact ⟨pos + K, out ++ q, by omega, hI3, k3.iter HI.out (by omega), hbw2.trans hb3, HS, HV2, by simp; omega⟩
            case measure => simp only [World.iterPos, k3.iter HI.out (by omega), HIT.out]; omega
          · obtain ⟨k, hkR⟩ : ∃ k, 192 + k = R := ⟨R - 192, by omega⟩
            have hk : k < 64 := by omega
            have hpc := cell_later hbw2 (HPL.out k hk)
            rw [hkR, htab] at hpc
            have g65 : 65 ≤ R := by omega
            have g90 : 90 < R := by omega
            have he : (R : Int) - 192 = (k : Int) := by omega
            clear htab hup hkR
            go_wp2_with (go_at_call 133; refine (WriteRuneI_c w1.heap.size w1.heap.size out _ (by omega) (by omega) _ hI2 (by omega) hsz2).mono ?_; rintro e w3 ⟨⟨n, rfl⟩, hI3, hb3, k3⟩)
            rw [HEN.out] at hI3
            go_roundw
            case rel => exact ⟨pos + K, out ++ q, by omega, hI3, k3.iter HI.out (by omega), hbw2.trans hb3, HS, HV2, by simp; omega⟩
            case measure => simp only [World.iterPos, k3.iter HI.out (by omega), HIT.out]; omega
        · rw [Tx.foldP_tab htab] at hst
          have hr : 192 ≤ R ∧ R < 256 := by
            rcases Nat.lt_or_ge R 192 with h9 | h9
            · exact absurd (Tx.foldC_out hup (.inl h9)) htab
            · rcases Nat.lt_or_ge 255 R with h8 | h8
              · exact absurd (Tx.foldC_out hup (.inr h8)) htab
              · omega
          obtain ⟨k, hkR⟩ : ∃ k, 192 + k = R := ⟨R - 192, by omega⟩
          have hk : k < 64 := by omega
          have hpc := cell_later hbw2 (HPL.out k hk)
          rw [hkR] at hpc
          have hfl := Tx.foldC_len R
          obtain ⟨fc, hfc⟩ : ∃ fc, Tx.foldC R = fc := ⟨_, rfl⟩
          rw [hfc] at hpc hst htab hfl
          have hfe : fc.isEmpty = false := by simpa using htab
          have HS : Hid (Tx.foldT Tx.foldStep (out ++ fc) (s.data.toList.drop (pos + K)) = F) := Lib.hid hst.symm
          have g65 : 65 ≤ R := by omega
          have g90 : 90 < R := by omega
          have he : (R : Int) - 192 = (k : Int) := by omega
          obtain ⟨g1, g2⟩ := hr
          clear hst htab hup hfc hkR
          go_wp2_with (go_at_call 78; refine (WriteString_c w1.heap.size w1.heap.size out _ _ hI2 (by rw [Tx.size_mk]; omega) hsz2).mono ?_; rintro e w3 ⟨rfl, hI3, hb3, k3⟩)
          go_roundw
          case rel => exact ⟨pos + K, out ++ fc, by omega, hI3, k3.iter HI.out (by omega), hbw2.trans hb3, HS, HV2, by simp; omega⟩
          case measure => simp only [World.iterPos, k3.iter HI.out (by omega), HIT.out]; omega
    · have hnx : ∀ ty, (Instr.next (.pointer (some ⟨w1.heap.size + 1, 0, none⟩)) true ty).run Tryz.prog wr = _ := fun ty => Lib.run_next_end_at wr (w1.heap.size + 1) s pos ty hit hp
      have hfin : out = F := by
        rw [← hFo.out, List.drop_eq_nil_of_le (by rw [← Lib.size_eq]; omega), Tx.foldT_nil]
      have HFIN := Lib.hid hfin; clear hfin
      have hwsz : w1.heap.size ≤ wr.heap.size := hbw.size
      go_wp2_with (go_at_call 79; refine (Tryz.Builder_String_any_f w1.heap.size w1.heap.size out _ hI hwsz).mono ?_; rintro e w3 ⟨rfl, hI3, hb3⟩)
      go_ret
      exact ⟨Tx.rets (by rw [HFIN.out, HF.out]), (hb1.trans ((hbw.trans hb3).mono hb1.size))⟩
end Go.Proofs.YtogpghpgnpoioaaGreatDoor

/- The program's Words of a text: what the call returns. -/
namespace Go.Proofs.YtogpghpgnpoioaaGreatDoor
open Go.RowKit
set_option maxRecDepth 100000

set_option maxHeartbeats 800000 in
theorem text_sep_c (c : Nat) (w : World) :
    Calls Tryz.prog 82 #[.int .i32 c] w fun e w' => e = .returned (.bool (Tx.sepW c)) ∧ Below w.heap.size w w' := by
  obtain ⟨b, hb⟩ : ∃ b, Tx.sepW c = b := ⟨_, rfl⟩
  rw [hb]
  unfold Tx.sepW Tx.letter at hb
  go_enter Tryz.func82, Tryz.ntmps82
  rcases (show c < 48 ∨ (48 ≤ c ∧ c ≤ 57) ∨ (57 < c ∧ c < 97) ∨ (97 ≤ c ∧ c ≤ 122) ∨ (122 < c ∧ c < 256) ∨ 256 ≤ c by omega) with g | ⟨g1, g2⟩ | ⟨g1, g2⟩ | ⟨g1, g2⟩ | ⟨g1, g2⟩ | g
  · have : b = true := by rw [← hb]; simp; omega
    subst this; clear hb
    go_wp2
    go_ret
    exact ⟨Tx.retb (by first | rfl | (simp; done) | (simp; omega)), Below.refl _ _⟩
  · have : b = false := by rw [← hb]; simp; omega
    have g3 : c < 97 := by omega
    subst this; clear hb
    go_wp2
    go_ret
    exact ⟨Tx.retb (by first | rfl | (simp; done) | (simp; omega)), Below.refl _ _⟩
  · have : b = true := by rw [← hb]; simp; omega
    have g3 : 48 ≤ c := by omega
    have g4 : c < 256 := by omega
    subst this; clear hb
    go_wp2
    go_ret
    exact ⟨Tx.retb (by first | rfl | (simp; done) | (simp; omega)), Below.refl _ _⟩
  · have : b = false := by rw [← hb]; simp; omega
    subst this; clear hb
    go_wp2
    go_ret
    exact ⟨Tx.retb (by first | rfl | (simp; done) | (simp; omega)), Below.refl _ _⟩
  · have : b = true := by rw [← hb]; simp; omega
    have g3 : 97 ≤ c := by omega
    have g4 : 48 ≤ c := by omega
    have g5 : 57 < c := by omega
    subst this; clear hb
    go_wp2
    go_ret
    exact ⟨Tx.retb (by first | rfl | (simp; done) | (simp; omega)), Below.refl _ _⟩
  · have : b = false := by rw [← hb]; simp; omega
    have g3 : 97 ≤ c := by omega
    have g4 : 48 ≤ c := by omega
    have g5 : 57 < c := by omega
    have g6 : 122 < c := by omega
    subst this; clear hb
    go_wp2
    go_ret
    exact ⟨Tx.retb (by first | rfl | (simp; done) | (simp; omega)), Below.refl _ _⟩

theorem text_sep_enters : ∀ args w, (callFunc 82 args).run Tryz.prog w = .ok (.enter 82 args) w := enters_of Tryz.func82 (by kernel_rfl) rfl

set_option maxHeartbeats 800000 in
theorem text_Words_c (s : ByteArray) (w : World) (hG : G w) (hs : s.size ≤ 1000000000) (hv : Tx.valid s.data.toList = true) :
    Calls Tryz.prog 56 #[.string s] w fun e w' => ∃ A xs, e = .returned (.slice (some ⟨A, 0, none⟩) xs.length xs.length) ∧ xs.map (·.data.toList) = Tx.words s.data.toList ∧ SLA w' (some ⟨A, 0, none⟩) xs.length xs ∧ w.heap.size ≤ A ∧ Below w.heap.size w w' := by
  have hfl := Tx.foldS_len hv
  rw [← Lib.size_eq] at hfl
  have hE := Tx.fieldsT_eq Tx.sepW ⟨(Tx.foldS s.data.toList).toArray⟩ (Tx.foldS_valid hv)
  have hn := Tx.fields_len Tx.sepW ⟨(Tx.foldS s.data.toList).toArray⟩
  rw [Tx.size_mk] at hn
  have hp : ∀ w, PredGrows Tryz.prog 82 #[] Tx.sepW w := fun w W x _ _ => text_sep_c x W
  have HP := Lib.hid hp; clear hp
  have HE := Lib.hid hE; clear hE
  have HV := Lib.hid hv; clear hv
  go_enter Tryz.func56, Tryz.ntmps56
  go_wp2_with (first
    | (go_at_call 81; refine (text_Fold_c s _ hG hs HV.out).mono ?_; rintro e w1 ⟨rfl, hb1⟩)
    | (go_at_call 80; refine (Tryz.strings_FieldsFunc_grows 82 #[] text_sep_enters Tx.sepW _ _ (by rw [Tx.size_mk]; omega) (HP.out _)).mono ?_; rintro e w2 ⟨A, rfl, hA, hown, hb2⟩))
  go_ret
  obtain ⟨a, c, h1, h2⟩ := SLA.of_own hown rfl
  cases h1
  exact ⟨A, _, rfl, HE.out, h2, Nat.le_trans hb1.size hA, hb1.trans (hb2.mono hb1.size)⟩
end Go.Proofs.YtogpghpgnpoioaaGreatDoor
