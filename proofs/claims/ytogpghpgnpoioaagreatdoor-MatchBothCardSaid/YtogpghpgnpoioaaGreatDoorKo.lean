/- strings.NewReplacer at four strings: what the call leaves. -/
import Derived.Test.YtogpghpgnpoioaaGreatDoorKn
import Derived.Test.YtogpghpgnpoioaaGreatDoorKh
import Derived.Deep.OwnRows
import Derived.Laws.IdiomCopy
import Derived.Deep.QuietTactic
import Derived.BigQuiet
namespace Go.Proofs.YtogpghpgnpoioaaGreatDoor
open Go.RowKit
set_option maxRecDepth 100000
namespace Rp
/-- Four strings in memory. -/
def Four (w : World) (ob : Nat) : Prop := w.cell? ⟨ob, 0, none⟩ = some (.string ⟨#[45]⟩) ∧ w.cell? ⟨ob, 1, none⟩ = some (.string ⟨#[]⟩) ∧ w.cell? ⟨ob, 2, none⟩ = some (.string ⟨#[32]⟩) ∧ w.cell? ⟨ob, 3, none⟩ = some (.string ⟨#[]⟩)
def four : List Value := [.string ⟨#[45]⟩, .string ⟨#[]⟩, .string ⟨#[32]⟩, .string ⟨#[]⟩]
theorem Four.later {w w' : World} {ob : Nat} (h : Four w ob) (hb : Below w.heap.size w w') : Four w' ob := ⟨cell_later hb h.1, cell_later hb h.2.1, cell_later hb h.2.2.1, cell_later hb h.2.2.2⟩
theorem Four.news {w : World} {ob : Nat} (h : Four w ob) : ∀ j u, four[j]? = some u → w.cell? ((⟨ob, 0, none⟩ : Addr).add j) = some u := by
  intro j u hj
  obtain ⟨h0, h1, h2, h3⟩ := h
  match j, hj with
  | 0, hj => simp [four] at hj; subst hj; simpa [Addr.add] using h0
  | 1, hj => simp [four] at hj; subst hj; simpa [Addr.add] using h1
  | 2, hj => simp [four] at hj; subst hj; simpa [Addr.add] using h2
  | 3, hj => simp [four] at hj; subst hj; simpa [Addr.add] using h3
  | (n + 4), hj => simp [four] at hj
theorem Four.of_own {w : World} {B : Nat} {v : Value} (h : w.ownsRow B 9 1 v 4 four) : ∃ ob oc, v = .slice (some ⟨ob, 0, none⟩) 4 oc ∧ Four w ob := by
  rcases h.2 with ⟨_, h0⟩ | ⟨g, cap, cur, rfl, _⟩
  · omega
  · exact ⟨g, cap, rfl, by rw [h.cellAt 0 (by decide)]; rfl, by rw [h.cellAt 1 (by decide)]; rfl, by rw [h.cellAt 2 (by decide)]; rfl, by rw [h.cellAt 3 (by decide)]; rfl⟩
/-- A new Replacer in block g. -/
def New (w : World) (g : Nat) : Prop := ∃ ob oc, w.heap[g]? = some (.cells #[.int .u32 0, .int .i32 0, .int .u32 0, .nilIface, .slice (some ⟨ob, 0, none⟩) 4 oc] 164 (0, 0)) ∧ Four w ob
set_option maxHeartbeats 1600000 in
theorem new_c (ob : Nat) (w : World) (h : Four w ob) :
    Calls Tryz.prog 83 #[.slice (some ⟨ob, 0, none⟩) 4 4] w fun e w' => ∃ g, e = .returned (.pointer (some ⟨g, 0, none⟩)) ∧ w.heap.size ≤ g ∧ New w' g ∧ Below w.heap.size w w' := by
  obtain ⟨i0, hi0, hz0, hz1, hz2⟩ := info_parts Sl_str
  have hnil : w.ownsRow w.heap.size 9 1 (.slice none 0 0) 0 [] := ⟨rfl, .inl ⟨rfl, rfl⟩⟩
  have HN := Lib.hid h.news
  have HO := Lib.hid hnil
  clear hnil h
  go_enter Tryz.func83, Tryz.ntmps83
  go_wp2_with (at_builtin; go_must ((refine wpList_append_own_at _ rfl _ _ 36 rfl w.heap.size 9 i0 (.string ⟨#[]⟩) 1 16 Tryz.underlying36 hi0 hz0 hz1 hz2 rfl (Nat.one_pos) _ 0 _ rfl HO.out ⟨ob, 0, none⟩ 4 4 four rfl rfl HN.out (by simp [Value.oneCell', four]) (by decide) (by decide) (Nat.le_refl _) ?_); intro v' w5 hown5 hg5 _ _; obtain ⟨o5, c5, rfl, h5⟩ := Four.of_own hown5; have hb5 := (Below.refl w.heap.size w).grown hg5 (Nat.le_refl _) (fun k hk => by cases hk)))
  go_ret
  exact ⟨_, rfl, hb5.size, ⟨o5, c5, heap_alloc_new w5 _, h5.later (Tx.newb w5 _)⟩, hb5.alloc hb5.size _⟩
/-- The Replacer's block: the Once, what was built, the strings. -/
def RB (s0 s1 : Int) (r l : Value) : Obj := .cells #[.int .u32 s0, .int .i32 s1, .int .u32 0, r, l] 164 (0, 0)
theorem set_row (w : World) (g i : Nat) (cs : Array Value) (t : TypeId) (x : Value) (h : w.heap[g]? = some (.cells cs t (0, 0))) : (w.setCell ⟨g, i, none⟩ x).heap[g]? = some (.cells (cs.setIfInBounds i x) t (0, 0)) := by
  rw [setCell_eq_setRow w g i cs t (0, 0) x h]
  exact setRow_heap w g cs _ t _ h
def bsrP (R : Nat) : Value := .iface 212 (.pointer (some ⟨R, 0, none⟩))
/-- Behind buildOnce. -/
def Post (B0 g : Nat) (w0 : World) (s0 s1 : Int) (w' : World) : Prop := Below B0 w0 w' ∧ ∃ R B v, g < B ∧ B ≤ R ∧ w'.heap[g]? = some (RB s0 s1 (bsrP R) (.slice none 0 0)) ∧ Hid (Bs B R (onS 2) 2 (strsS 2) w' v)
theorem Post.set {B0 g : Nat} {w0 w' : World} {s0 s1 : Int} (h : Post B0 g w0 s0 s1 w') (hg : B0 ≤ g) : Post B0 g w0 1 s1 (w'.setCell ⟨g, 0, none⟩ (.int .u32 1)) ∧ Post B0 g w0 s0 0 (w'.setCell ⟨g, 1, none⟩ (.int .i32 0)) := by
  obtain ⟨hb, R, B, v, h1, h2, h3, h4⟩ := h
  have hk : ∀ i x, Hid (Bs B R (onS 2) 2 (strsS 2) (w'.setCell ⟨g, i, none⟩ x) v) := fun i x => Lib.hid (h4.out.keep (Below.heap_setCell w' _ _ R (by simp; omega)) (own_set h4.out.own g i x (fun h9 => by have := own_base h4.out.own g h9; omega)))
  exact ⟨⟨hb.setCell (p := ⟨g, 0, none⟩) hg _, R, B, v, h1, h2, set_row w' g 0 _ _ _ h3, hk _ _⟩, ⟨hb.setCell (p := ⟨g, 1, none⟩) hg _, R, B, v, h1, h2, set_row w' g 1 _ _ _ h3, hk _ _⟩⟩
theorem Post.drew {B0 g : Nat} {w0 w' : World} {s0 s1 : Int} (h : Post B0 g w0 s0 s1 w') : Post B0 g w0 s0 s1 w'.drew := by
  obtain ⟨hb, R, B, v, h1, h2, h3, h4⟩ := h
  exact ⟨hb.drew, R, B, v, h1, h2, h3, Lib.hid h4.out.drew⟩
theorem rb_cell {w : World} {g : Nat} {s0 s1 : Int} {r l : Value} (h : w.heap[g]? = some (RB s0 s1 r l)) :
    w.cell? ⟨g, 0, none⟩ = some (.int .u32 s0) ∧ w.cell? ⟨g, 1, none⟩ = some (.int .i32 s1) ∧ w.cell? ⟨g, 3, none⟩ = some r ∧ w.cell? ⟨g, 4, none⟩ = some l ∧ ∀ i, w.frozen? ⟨g, i, none⟩ = false := by
  unfold RB at h
  refine ⟨?_, ?_, ?_, ?_, fun i => ?_⟩ <;> simp [World.cell?, World.frozen?, h]
set_option maxHeartbeats 1600000 in
theorem once_c (B0 g ob oc : Nat) (w0 w : World) (hg : B0 ≤ g) (hB : Below B0 w0 w) (h : w.heap[g]? = some (RB 0 1 .nilIface (.slice (some ⟨ob, 0, none⟩) 4 oc))) (hf : Four w ob) :
    Calls Tryz.prog 135 #[.pointer (some ⟨g, 0, none⟩)] w fun e w' => e = .returned (.tuple #[]) ∧ Post B0 g w0 0 1 w' := by
  have hgl : g < w.heap.size := (Array.getElem?_eq_some_iff.1 h).1
  obtain ⟨q0, q1, q3, q4, qf⟩ := rb_cell h
  have HBC := Lib.hid (build_c g ob oc w q4 hf.1 hf.2.1 hf.2.2.1 hf.2.2.2)
  have HH := Lib.hid h
  have HB0 := Lib.hid hB
  clear h hf hB q0 q1 qf
  have hpost : ∀ w2 v, Rnd w 2 w2 v → Post B0 g w0 0 1 ((w2.setCell ⟨g, 3, none⟩ (bsrP (w.heap.size + 1))).setCell ⟨g, 4, none⟩ (.slice none 0 0)) := fun w2 v hr => by
    obtain ⟨hb2, hs2⟩ := hr
    have h2 : w2.heap[g]? = some (RB 0 1 .nilIface (.slice (some ⟨ob, 0, none⟩) 4 oc)) := by rw [hb2.block g hgl]; exact HH.out
    have h3 := set_row w2 g 3 _ _ (bsrP (w.heap.size + 1)) h2
    have h4 := set_row _ g 4 _ _ (.slice none 0 0) h3
    have k2 : Bs w.heap.size (w.heap.size + 1) (onS 2) 2 (strsS 2) (w2.setCell ⟨g, 3, none⟩ (bsrP (w.heap.size + 1))) v := hs2.out.keep (Below.heap_setCell w2 _ _ _ (by simp; omega)) (own_set hs2.out.own g _ _ (fun h9 => by have := own_base hs2.out.own g h9; omega))
    have k3 : Bs w.heap.size (w.heap.size + 1) (onS 2) 2 (strsS 2) ((w2.setCell ⟨g, 3, none⟩ (bsrP (w.heap.size + 1))).setCell ⟨g, 4, none⟩ (.slice none 0 0)) v := k2.keep (Below.heap_setCell _ _ _ _ (by simp; omega)) (own_set k2.own g _ _ (fun h9 => by have := own_base k2.own g h9; omega))
    have hbw : Below B0 w w2 := ⟨hb2.os, hb2.tape, hb2.output, hb2.size, fun k hk => hb2.block k (by omega)⟩
    exact ⟨((HB0.out.trans hbw).setCell (p := ⟨g, 3, none⟩) hg _).setCell (p := ⟨g, 4, none⟩) hg _, w.heap.size + 1, w.heap.size, v, hgl, by omega, h4, Lib.hid k3⟩
  have HP := Lib.hid hpost
  clear hpost
  unfold bsrP at HP
  go_enter Tryz.func135, Tryz.ntmps135
  go_wp2_with (go_at_call 165; ((with_reducible refine HBC.out.mono ?_); rintro e w2 ⟨rfl, v, hr⟩; have HR := Lib.hid hr; have hb2 := hr.1; have c3 := cell_later hb2 q3; have c4 := cell_later hb2 q4; have z3 : w2.frozen? ⟨g, 3, none⟩ = false := (rb_cell ((hb2.block g hgl).trans HH.out)).2.2.2.2 3; have z4 : w2.frozen? ⟨g, 4, none⟩ = false := (rb_cell ((hb2.block g hgl).trans HH.out)).2.2.2.2 4; clear hr hb2))
  go_end0
  exact ⟨rfl, HP.out _ _ HR.out⟩
end Rp
end Go.Proofs.YtogpghpgnpoioaaGreatDoor

/- A table of bytes that takes away blanks and hyphens: what its Replace returns. -/
namespace Go.Proofs.YtogpghpgnpoioaaGreatDoor
open Go.RowKit
set_option maxRecDepth 100000
namespace Rp
open Mt
theorem rem_cons (c : UInt8) (r : By) : rem (c :: r) = rem [c] ++ rem r := rem_app [c] r
theorem rem_count : ∀ s : By, (rem s).length + (s.count 32 + s.count 45) = s.length
  | [] => rfl
  | c :: r => by
    have ih := rem_count r
    rw [rem_cons, List.length_append, List.count_cons, List.count_cons, List.length_cons]
    by_cases h1 : c = 45
    · subst h1; rw [rem_hit (.inl rfl)]; simp; omega
    · by_cases h2 : c = 32
      · subst h2; rw [rem_hit (.inr rfl)]; simp; omega
      · rw [rem_miss h1 h2, if_neg (by simpa using h2), if_neg (by simpa using h1)]; simp; omega
theorem rem_same : ∀ s : By, (rem s).length = s.length → rem s = s
  | [], _ => rfl
  | c :: r, h => by
    have hl := rem_le r
    rw [rem_cons, List.length_append, List.length_cons] at h
    by_cases h1 : c = 45
    · subst h1; rw [rem_hit (.inl rfl)] at h; simp at h; omega
    · by_cases h2 : c = 32
      · subst h2; rw [rem_hit (.inr rfl)] at h; simp at h; omega
      · rw [rem_miss h1 h2] at h
        rw [rem_cons, rem_miss h1 h2, rem_same r (by simp at h; omega)]
        rfl
/-- The table as it is read. -/
structure Tb (w : World) (R : Nat) : Prop where
  lt : R < w.heap.size
  on_ : ∀ c : UInt8, c = 45 ∨ c = 32 → ∃ a k, w.cell? ⟨R, c.toNat, none⟩ = some (.slice (some a) 0 k)
  off : ∀ c : UInt8, c ≠ 45 → c ≠ 32 → w.cell? ⟨R, c.toNat, none⟩ = some (.slice none 0 0)
  rep : ∃ b k, b < w.heap.size ∧ w.cell? ⟨R, 256, none⟩ = some (.slice (some ⟨b, 0, none⟩) 2 k) ∧ w.cell? ⟨b, 0, none⟩ = some (.string ⟨#[32]⟩) ∧ w.cell? ⟨b, 1, none⟩ = some (.string ⟨#[45]⟩)
theorem Tb.below {w w' : World} {R : Nat} (h : Tb w R) (hb : Below w.heap.size w w') : Tb w' R := by
  obtain ⟨b, k, h0, h1, h2, h3⟩ := h.rep
  refine ⟨Nat.lt_of_lt_of_le h.lt hb.size, fun c hc => ?_, fun c h1 h2 => cell_later hb (h.off c h1 h2), ⟨b, k, Nat.lt_of_lt_of_le h0 hb.size, cell_later hb h1, cell_later hb h2, cell_later hb h3⟩⟩
  obtain ⟨a, k, h9⟩ := h.on_ c hc
  exact ⟨a, k, cell_later hb h9⟩
theorem Tb.of {w : World} {B R : Nat} {v : Value} (h : Bs B R (onS 2) 2 (strsS 2) w v) : Tb w R := by
  refine ⟨h.lt, fun c hc => ?_, fun c h1 h2 => ?_, ?_⟩
  · exact h.on_ (by have := c.toNat_lt; omega) (by rcases hc with rfl | rfl <;> rfl)
  · refine h.off (by have := c.toNat_lt; omega) ?_
    have e1 : c.toNat ≠ 45 := fun e => h1 (UInt8.toNat.inj (by rw [e]; rfl))
    have e2 : c.toNat ≠ 32 := fun e => h2 (UInt8.toNat.inj (by rw [e]; rfl))
    unfold onS
    rw [beq_eq_false_iff_ne.2 e1, beq_eq_false_iff_ne.2 e2]
    rfl
  · have ho := h.own
    have hr := h.rep
    rcases ho.2 with ⟨_, h0⟩ | ⟨g, cap, cur, rfl, _, hg, _⟩
    · omega
    · exact ⟨g, cap, (Array.getElem?_eq_some_iff.1 hg).1, hr, by rw [ho.cellAt 0 (by decide)]; rfl, by rw [ho.cellAt 1 (by decide)]; rfl⟩
/-- The bytes written so far. -/
def Buf (w : World) (g L : Nat) (out : By) : Prop := ∃ cur, w.heap[g]? = some (.cells cur 5 (0, 0)) ∧ cur.size = L ∧ cur.toList.take out.length = u8s out
theorem Buf.drewN {w : World} {g L : Nat} {out : By} (h : Buf w g L out) (q : Nat) : Buf (w.drewN q) g L out := h
theorem Buf.set {w : World} {g L : Nat} {out : By} (h : Buf w g L out) (c : UInt8) (hl : out.length < L) : Buf (w.setCell ⟨g, out.length, none⟩ (.int .u8 c.toNat)) g L (out ++ [c]) := by
  obtain ⟨cur, h1, h2, h3⟩ := h
  refine ⟨_, set_row w g out.length cur _ _ h1, by simpa using h2, ?_⟩
  rw [Array.toList_setIfInBounds, List.length_append, List.length_singleton, List.take_add_one, List.take_set_of_le (Nat.le_refl _), h3, List.getElem?_set_self (by simpa [h2] using hl)]
  simp [u8s]
theorem Buf.cell {w : World} {g L : Nat} {out : By} (h : Buf w g L out) {j : Nat} (hj : j < L) : ∃ x, w.cell? ⟨g, j, none⟩ = some x := by
  obtain ⟨cur, h1, h2, h3⟩ := h
  exact ⟨cur[j]'(by omega), by simp [World.cell?, h1, h2, hj]⟩
theorem Buf.froz {w : World} {g L : Nat} {out : By} (h : Buf w g L out) (j : Nat) : w.frozen? ⟨g, j, none⟩ = false := by
  obtain ⟨cur, h1, h2, h3⟩ := h
  simp [World.frozen?, h1]
theorem Buf.at_ {w : World} {g L : Nat} {out : By} (h : Buf w g L out) (j : Nat) (hj : j < out.length) : w.cell? ((⟨g, 0, none⟩ : Addr).add j) = some (.int .u8 (out[j].toNat : Int)) := by
  obtain ⟨cur, h1, h2, h3⟩ := h
  have e : (⟨g, 0, none⟩ : Addr).add j = ⟨g, j, none⟩ := by unfold Addr.add; split <;> simp_all
  have h4 : (cur.toList.take out.length)[j]? = some (.int .u8 (out[j].toNat : Int)) := by
    rw [h3, List.getElem?_map, List.getElem?_eq_getElem hj]; rfl
  rw [List.getElem?_take_of_lt hj] at h4
  rw [e]
  simp [World.cell?, h1]
  simpa using h4
end Rp
end Go.Proofs.YtogpghpgnpoioaaGreatDoor

/- A table of bytes that takes away blanks and hyphens: what its Replace returns. -/
namespace Go.Proofs.YtogpghpgnpoioaaGreatDoor
open Go.RowKit
set_option maxRecDepth 100000
namespace Rp
open Mt
theorem rem_take (l : By) (k : Nat) : (rem (l.take k)).length ≤ (rem l).length := by
  have h : rem l = rem (l.take k) ++ rem (l.drop k) := by rw [← rem_app, List.take_append_drop]
  rw [h, List.length_append]
  omega
def cnt (k1 k2 : Nat) : Nat → Nat
  | 0 => 0
  | 1 => k1
  | _ => k1 + k2
set_option maxHeartbeats 1600000 in
theorem bytes_c (R : Nat) (s : ByteArray) (w : World) (hT : Tb w R) (hs : s.size ≤ 1000000000) :
    Calls Tryz.prog 257 #[.pointer (some ⟨R, 0, none⟩), .string s] w fun e w' => e = .returned (.string ⟨(rem s.data.toList).toArray⟩) ∧ Below w.heap.size w w' := by
  have e32 : ∀ h, (⟨#[32]⟩ : ByteArray)[0]'h = 32 := fun _ => rfl
  have e45 : ∀ h, (⟨#[45]⟩ : ByteArray)[0]'h = 45 := fun _ => rfl
  have hrc := rem_count s.data.toList
  have HC1 := fun w => Tryz.strings_Count_one s 32 w
  have HC2 := fun w => Tryz.strings_Count_one s 45 w
  unfold Lib.countByte at HC1 HC2
  obtain ⟨k1, hk1⟩ : ∃ k, s.data.toList.count 32 = k := ⟨_, rfl⟩
  obtain ⟨k2, hk2⟩ : ∃ k, s.data.toList.count 45 = k := ⟨_, rfl⟩
  obtain ⟨L, hL⟩ : ∃ L, (rem s.data.toList).length = L := ⟨_, rfl⟩
  rw [hk1] at HC1 hrc
  rw [hk2] at HC2 hrc
  rw [hL, ← Lib.size_eq] at hrc
  have HL := Lib.hid hL
  clear hL
  have HT := Lib.hid hT
  obtain ⟨rb, rk, hrb, r256, rs0, rs1⟩ := hT.rep
  by_cases h16 : 16 ≤ s.size
  · have h16i : (16 : Int) ≤ (s.size : Int) := by omega
    clear hT hk1 hk2
    go_enter Tryz.func257, Tryz.ntmps257
    go_wp2
    go_loopw [5, 6, 32] (fun ns any i wr => ∃ (m : Nat) (x : Int) (y : Bool), m ≤ 2 ∧ i = .int .i64 m ∧ ns = .int .i64 x ∧ any = .bool y ∧ Hid (x = (s.size : Int) - cnt k1 k2 m) ∧ Hid (y = decide (cnt k1 k2 m ≠ 0)) ∧ Below w.heap.size w wr) (fun _ _ i _ => 2 - (intOf i).toNat)
    case atStart => exact ⟨0, s.size, false, by decide, rfl, rfl, rfl, Lib.hid (by simp [cnt]), Lib.hid (by simp [cnt]), Below.refl _ _⟩
    case round =>
      obtain ⟨m, x, y, hm, rfl, rfl, rfl, hx, hy, hb⟩ := hrel
      have g256 := cell_later hb r256
      rcases (by omega : m = 0 ∨ m = 1 ∨ m = 2) with rfl | rfl | rfl
      · have g0 := cell_later hb rs0
        obtain ⟨a9, k9, g9⟩ := (HT.out.below hb).on_ 32 (.inr rfl)
        have g9' : wr.cell? ⟨R, 32, none⟩ = some (.slice (some a9) 0 k9) := g9
        have hxo : 0 ≤ x ∧ x ≤ 1000000000 := by have := hx.out; simp [cnt] at this; omega
        clear g9
        by_cases hk : k1 = 0
        · have hkb : ((k1 : Int) != 0) = false := by rw [hk]; rfl
          go_wp2_with (go_at_call 176; ((with_reducible refine (HC1 _).mono ?_); rintro e w2 ⟨rfl, h2⟩; subst h2))
          go_roundw
          case rel => exact ⟨1, x, y, by decide, rfl, rfl, rfl, Lib.hid (by rw [hx.out]; simp [cnt]; omega), Lib.hid (by rw [hy.out]; simp [cnt, hk]), hb⟩
          case measure => simp [intOf]
        · have hkb : ((k1 : Int) != 0) = true := bne_iff_ne.2 (by omega)
          have hwx := IntWalk.i64_in (x + -(k1 : Int)) ⟨by omega, by omega⟩
          go_wp2_with (go_at_call 176; ((with_reducible refine (HC1 _).mono ?_); rintro e w2 ⟨rfl, h2⟩; subst h2))
          go_quiet (fail)
          have hbq := Tx.below_drewN (Below.refl w2.heap.size w2) nq
          generalize w2.drewN nq = w5 at hbq ⊢
          go_wp2
          go_roundw
          case rel => exact ⟨1, _, true, by decide, rfl, rfl, rfl, Lib.hid (by have := hx.out; simp [cnt] at this ⊢; omega), Lib.hid (by simp [cnt]; omega), Tx.step hb hbq⟩
          case measure => simp [intOf]
      · have g0 := cell_later hb rs1
        obtain ⟨a9, k9, g9⟩ := (HT.out.below hb).on_ 45 (.inl rfl)
        have g9' : wr.cell? ⟨R, 45, none⟩ = some (.slice (some a9) 0 k9) := g9
        have hxo : 0 ≤ x ∧ x ≤ 1000000000 := by have := hx.out; simp [cnt] at this; omega
        clear g9
        by_cases hk : k2 = 0
        · have hkb : ((k2 : Int) != 0) = false := by rw [hk]; rfl
          go_wp2_with (go_at_call 176; ((with_reducible refine (HC2 _).mono ?_); rintro e w2 ⟨rfl, h2⟩; subst h2))
          go_roundw
          case rel => exact ⟨2, x, y, by decide, rfl, rfl, rfl, Lib.hid (by rw [hx.out]; simp [cnt]; omega), Lib.hid (by rw [hy.out]; simp [cnt, hk]), hb⟩
          case measure => simp [intOf]
        · have hkb : ((k2 : Int) != 0) = true := bne_iff_ne.2 (by omega)
          have hwx := IntWalk.i64_in (x + -(k2 : Int)) ⟨by omega, by omega⟩
          go_wp2_with (go_at_call 176; ((with_reducible refine (HC2 _).mono ?_); rintro e w2 ⟨rfl, h2⟩; subst h2))
          go_quiet (fail)
          have hbq := Tx.below_drewN (Below.refl w2.heap.size w2) nq
          generalize w2.drewN nq = w5 at hbq ⊢
          go_wp2
          go_roundw
          case rel => exact ⟨2, _, true, by decide, rfl, rfl, rfl, Lib.hid (by have := hx.out; simp [cnt] at this ⊢; omega), Lib.hid (by simp [cnt]; omega), Tx.step hb hbq⟩
          case measure => simp [intOf]
      · have hxo := hx.out
        have hyo := hy.out
        simp [cnt] at hxo
        obtain rfl : x = (L : Int) := by omega
        have hgB := hb.size
        clear hx hxo
        by_cases hk : k1 + k2 = 0
        · have hye : y = false := by rw [hyo]; simp [cnt, hk]
          subst hye
          have HR := Lib.hid (rem_same s.data.toList (by rw [HL.out, ← Lib.size_eq]; omega))
          clear hyo hy
          go_wp2
          go_ret
          exact ⟨Tx.rets (by rw [HR.out]), hb⟩
        · have hye : y = true := by rw [hyo]; simp [cnt]; omega
          subst hye
          clear hyo hy
          obtain ⟨V, hV⟩ : ∃ V, wr.alloc (.cells (madeCells #[.int .u8 0] L) 5) = V := ⟨_, rfl⟩
          have hbV : Below w.heap.size w V := by rw [← hV]; exact Tx.step hb (Tx.newb _ _)
          have hB0 : Buf V wr.heap.size L [] := ⟨_, by rw [← hV]; exact heap_alloc_new wr _, by simp [madeCells], by simp⟩
          have hmk := run_make_row' (P := Tryz.prog) 99 5 (.int .u8 0) 1 Tryz.underlying99 info_u8 rfl .i64 .i64 L (by omega) (by omega) wr
          rw [hV] at hmk
          go_wp2
          clear hV hmk
          generalize wr.heap.size = g at *
          go_loopw [13, 14] (fun j i wr => ∃ (k : Nat) (out : By), k ≤ s.size ∧ i = .int .i64 k ∧ j = .int .i64 out.length ∧ Hid (out = rem (s.data.toList.take k)) ∧ Buf wr g L out ∧ Below w.heap.size w wr) (fun _ i _ => s.size - (intOf i).toNat)
          case atStart => exact ⟨0, [], Nat.zero_le _, rfl, rfl, Lib.hid rfl, hB0, hbV⟩
          case round =>
            obtain ⟨k, out, hk, rfl, rfl, hout, hbuf, hb3⟩ := hrel
            by_cases hlt : k < s.size
            · obtain ⟨c, hc⟩ : ∃ c, s[k]'hlt = c := ⟨_, rfl⟩
              have hst : rem (s.data.toList.take (k + 1)) = out ++ rem [c] := by rw [take_at hlt, rem_app, ← hout.out, hc]
              have hle : (rem (s.data.toList.take (k + 1))).length ≤ L := by rw [← HL.out]; exact rem_take _ _
              have hcc : ∀ h, s[k]'h = c := fun _ => hc
              have hc8 : (c.toNat : Int) < 256 := by have := c.toNat_lt; omega
              clear hc
              by_cases h1 : c = 45 ∨ c = 32
              · obtain ⟨a9, k9, g9⟩ := (HT.out.below hb3).on_ c h1
                rw [hst, rem_hit h1, List.append_nil] at hle
                rw [rem_hit h1, List.append_nil] at hst
                have HS := Lib.hid hst
                have hcp := fun (w : World) (d : Option Addr) (n m : Nat) => run_copy_none (P := Tryz.prog) w 99 99 3 5 d (some a9) n m 0 k9 Tryz.underlying99 (by kernel_rfl) (Nat.zero_min _)
                clear hst h1
                go_wp2
                go_quiet (fail)
                have hbq := Tx.below_drewN (Below.refl wr.heap.size wr) nq
                have hbuf2 := hbuf.drewN nq
                generalize wr.drewN nq = w6 at hbq hbuf2 ⊢
                go_wp2
                go_roundw
                case rel => exact ⟨k + 1, out, hlt, by go_num, rfl, Lib.hid HS.out.symm, hbuf2, Tx.step hb3 hbq⟩
                case measure => simp [intOf]; omega
              · have h45 : c ≠ 45 := fun e => h1 (.inl e)
                have h32 : c ≠ 32 := fun e => h1 (.inr e)
                have g9 := (HT.out.below hb3).off c h45 h32
                rw [hst, rem_miss h45 h32, List.length_append, List.length_singleton] at hle
                rw [rem_miss h45 h32] at hst
                have HS := Lib.hid hst
                obtain ⟨z, hz⟩ := hbuf.cell (j := out.length) (by omega)
                have hf := hbuf.froz out.length
                have hset := hbuf.set c (by omega)
                have hgw : w.heap.size ≤ g := hgB
                clear hst h1 h45 h32
                go_wp2
                go_roundw
                case rel => exact ⟨k + 1, out ++ [c], hlt, by go_num, by simp, Lib.hid HS.out.symm, hset, hb3.setCell (p := ⟨g, out.length, none⟩) hgw _⟩
                case measure => simp [intOf]; omega
            · obtain rfl : k = s.size := by omega
              have hou : out = rem s.data.toList := by rw [hout.out, take_end]
              have hlo : out.length = L := by rw [hou]; exact HL.out
              have hcv := run_convert_bytes_back (P := Tryz.prog) wr 99 9 5 ⟨g, 0, none⟩ L out Tryz.underlying99 Tryz.underlying5 Tryz.underlying9 (fun j hj => hbuf.at_ j hj)
              rw [hlo] at hcv
              have HOU := Lib.hid hou
              clear hou hout
              go_wp2
              go_ret
              exact ⟨Tx.rets (by rw [HOU.out]), hb3⟩
  · have h16i : ¬ (16 : Int) ≤ (s.size : Int) := by omega
    clear hT hk1 hk2
    go_enter Tryz.func257, Tryz.ntmps257
    go_wp2
    go_loopw [5, 6, 10] (fun ns any i wr => ∃ (k q : Nat) (x : Int) (y : Bool), k ≤ s.size ∧ i = .int .i64 k ∧ ns = .int .i64 x ∧ any = .bool y ∧ Hid (q = (rem (s.data.toList.take k)).length) ∧ q ≤ k ∧ Hid (x = (s.size : Int) - k + q) ∧ Hid (y = decide (q ≠ k)) ∧ Below w.heap.size w wr) (fun _ _ i _ => s.size - (intOf i).toNat)
    case atStart => exact ⟨0, 0, s.size, false, Nat.zero_le _, rfl, rfl, rfl, Lib.hid rfl, Nat.le_refl _, Lib.hid (by simp), Lib.hid (by simp), Below.refl _ _⟩
    case round =>
      obtain ⟨k, q, x, y, hk, rfl, rfl, rfl, hq, hqk, hx, hy, hb⟩ := hrel
      by_cases hlt : k < s.size
      · obtain ⟨c, hc⟩ : ∃ c, s[k]'hlt = c := ⟨_, rfl⟩
        have hst : (rem (s.data.toList.take (k + 1))).length = q + (rem [c]).length := by rw [take_at hlt, rem_app, List.length_append, ← hq.out, hc]
        have hcc : ∀ h, s[k]'h = c := fun _ => hc
        have hc8 : (c.toNat : Int) < 256 := by have := c.toNat_lt; omega
        have hx2 : 0 ≤ x ∧ x ≤ 1000000000 ∧ 1 ≤ x + q + 1 := by have := hx.out; omega
        clear hc
        by_cases h1 : c = 45 ∨ c = 32
        · obtain ⟨a9, k9, g9⟩ := (HT.out.below hb).on_ c h1
          rw [rem_hit h1] at hst
          have HS := Lib.hid hst
          have hwx := IntWalk.i64_in (x + -1) ⟨by omega, by omega⟩
          clear hst h1
          go_wp2
          go_roundw
          case rel => exact ⟨k + 1, q, _, true, hlt, by go_num, rfl, rfl, Lib.hid (by rw [HS.out]; rfl), by omega, Lib.hid (by have := hx.out; omega), Lib.hid (by simp; omega), hb⟩
          case measure => simp [intOf]; omega
        · have h45 : c ≠ 45 := fun e => h1 (.inl e)
          have h32 : c ≠ 32 := fun e => h1 (.inr e)
          have g9 := (HT.out.below hb).off c h45 h32
          rw [rem_miss h45 h32] at hst
          have HS := Lib.hid hst
          clear hst h1 h45 h32
          go_wp2
          go_roundw
          case rel => exact ⟨k + 1, q + 1, x, y, hlt, by go_num, rfl, rfl, Lib.hid (by rw [HS.out]; rfl), by omega, Lib.hid (by have := hx.out; omega), Lib.hid (by rw [hy.out]; simp), hb⟩
          case measure => simp [intOf]; omega
      · obtain rfl : k = s.size := by omega
        have hqL : q = L := by rw [hq.out, take_end]; exact HL.out
        have hxo := hx.out
        have hyo := hy.out
        obtain rfl : x = (L : Int) := by omega
        have hgB := hb.size
        clear hx hxo
        by_cases hk : k1 + k2 = 0
        · have hye : y = false := by rw [hyo]; simp; omega
          subst hye
          have HR := Lib.hid (rem_same s.data.toList (by rw [HL.out, ← Lib.size_eq]; omega))
          clear hyo hy hqL hq
          go_wp2
          go_ret
          exact ⟨Tx.rets (by rw [HR.out]), hb⟩
        · have hye : y = true := by rw [hyo]; simp; omega
          subst hye
          clear hyo hy hqL hq
          obtain ⟨V, hV⟩ : ∃ V, wr.alloc (.cells (madeCells #[.int .u8 0] L) 5) = V := ⟨_, rfl⟩
          have hbV : Below w.heap.size w V := by rw [← hV]; exact Tx.step hb (Tx.newb _ _)
          have hB0 : Buf V wr.heap.size L [] := ⟨_, by rw [← hV]; exact heap_alloc_new wr _, by simp [madeCells], by simp⟩
          have hmk := run_make_row' (P := Tryz.prog) 99 5 (.int .u8 0) 1 Tryz.underlying99 info_u8 rfl .i64 .i64 L (by omega) (by omega) wr
          rw [hV] at hmk
          go_wp2
          clear hV hmk
          generalize wr.heap.size = g at *
          go_loopw [13, 14] (fun j i wr => ∃ (k : Nat) (out : By), k ≤ s.size ∧ i = .int .i64 k ∧ j = .int .i64 out.length ∧ Hid (out = rem (s.data.toList.take k)) ∧ Buf wr g L out ∧ Below w.heap.size w wr) (fun _ i _ => s.size - (intOf i).toNat)
          case atStart => exact ⟨0, [], Nat.zero_le _, rfl, rfl, Lib.hid rfl, hB0, hbV⟩
          case round =>
            obtain ⟨k, out, hk, rfl, rfl, hout, hbuf, hb3⟩ := hrel
            by_cases hlt : k < s.size
            · obtain ⟨c, hc⟩ : ∃ c, s[k]'hlt = c := ⟨_, rfl⟩
              have hst : rem (s.data.toList.take (k + 1)) = out ++ rem [c] := by rw [take_at hlt, rem_app, ← hout.out, hc]
              have hle : (rem (s.data.toList.take (k + 1))).length ≤ L := by rw [← HL.out]; exact rem_take _ _
              have hcc : ∀ h, s[k]'h = c := fun _ => hc
              have hc8 : (c.toNat : Int) < 256 := by have := c.toNat_lt; omega
              clear hc
              by_cases h1 : c = 45 ∨ c = 32
              · obtain ⟨a9, k9, g9⟩ := (HT.out.below hb3).on_ c h1
                rw [hst, rem_hit h1, List.append_nil] at hle
                rw [rem_hit h1, List.append_nil] at hst
                have HS := Lib.hid hst
                have hcp := fun (w : World) (d : Option Addr) (n m : Nat) => run_copy_none (P := Tryz.prog) w 99 99 3 5 d (some a9) n m 0 k9 Tryz.underlying99 (by kernel_rfl) (Nat.zero_min _)
                clear hst h1
                go_wp2
                go_quiet (fail)
                have hbq := Tx.below_drewN (Below.refl wr.heap.size wr) nq
                have hbuf2 := hbuf.drewN nq
                generalize wr.drewN nq = w6 at hbq hbuf2 ⊢
                go_wp2
                go_roundw
                case rel => exact ⟨k + 1, out, hlt, by go_num, rfl, Lib.hid HS.out.symm, hbuf2, Tx.step hb3 hbq⟩
                case measure => simp [intOf]; omega
              · have h45 : c ≠ 45 := fun e => h1 (.inl e)
                have h32 : c ≠ 32 := fun e => h1 (.inr e)
                have g9 := (HT.out.below hb3).off c h45 h32
                rw [hst, rem_miss h45 h32, List.length_append, List.length_singleton] at hle
                rw [rem_miss h45 h32] at hst
                have HS := Lib.hid hst
                obtain ⟨z, hz⟩ := hbuf.cell (j := out.length) (by omega)
                have hf := hbuf.froz out.length
                have hset := hbuf.set c (by omega)
                have hgw : w.heap.size ≤ g := hgB
                clear hst h1 h45 h32
                go_wp2
                go_roundw
                case rel => exact ⟨k + 1, out ++ [c], hlt, by go_num, by simp, Lib.hid HS.out.symm, hset, hb3.setCell (p := ⟨g, out.length, none⟩) hgw _⟩
                case measure => simp [intOf]; omega
            · obtain rfl : k = s.size := by omega
              have hou : out = rem s.data.toList := by rw [hout.out, take_end]
              have hlo : out.length = L := by rw [hou]; exact HL.out
              have hcv := run_convert_bytes_back (P := Tryz.prog) wr 99 9 5 ⟨g, 0, none⟩ L out Tryz.underlying99 Tryz.underlying5 Tryz.underlying9 (fun j hj => hbuf.at_ j hj)
              rw [hlo] at hcv
              have HOU := Lib.hid hou
              clear hou hout
              go_wp2
              go_ret
              exact ⟨Tx.rets (by rw [HOU.out]), hb3⟩
end Rp
end Go.Proofs.YtogpghpgnpoioaaGreatDoor

/- strings.NewReplacer("-", "", " ", "").Replace: what the call returns. -/
namespace Go.Proofs.YtogpghpgnpoioaaGreatDoor
open Go.RowKit
set_option maxRecDepth 100000
namespace Rp
open Mt
theorem rb_new {w : World} {g : Nat} (h : New w g) : ∃ ob oc, w.heap[g]? = some (RB 0 0 .nilIface (.slice (some ⟨ob, 0, none⟩) 4 oc)) ∧ Four w ob := h
theorem method_replace (a : Addr) (w : World) : (method 383 212 (.pointer (some a)) "Replace").run Tryz.prog w = .ok (257, .pointer (some a)) w := by kernel_rfl
set_option maxHeartbeats 1600000 in
theorem replace_c (B0 g : Nat) (s : ByteArray) (w : World) (hg : B0 ≤ g) (hN : New w g) (hs : s.size ≤ 1000000000) :
    Calls Tryz.prog 84 #[.pointer (some ⟨g, 0, none⟩), .string s] w fun e w' => e = .returned (.string ⟨(rem s.data.toList).toArray⟩) ∧ Below B0 w w' := by
  obtain ⟨ob, oc, h, hf⟩ := rb_new hN
  have hgl : g < w.heap.size := (Array.getElem?_eq_some_iff.1 h).1
  obtain ⟨q0, q1, q3, q4, qf⟩ := rb_cell h
  have h1 := set_row w g 1 _ _ (.int .i32 1) h
  have hob : ∀ j v, w.cell? ⟨ob, j, none⟩ = some (.string v) → ob ≠ g := fun j v hv e => by
    subst e
    unfold World.cell? at hv
    rw [h] at hv
    simp at hv
    match j, hv with
    | 0, hv => simp [RB] at hv
    | 1, hv => simp [RB] at hv
    | 2, hv => simp [RB] at hv
    | 3, hv => simp [RB] at hv
    | 4, hv => simp [RB] at hv
    | (n + 5), hv => simp [RB] at hv
  have hne := hob 0 _ hf.1
  have hf1 : Four (w.setCell ⟨g, 1, none⟩ (.int .i32 1)) ob := by
    have k := fun j => World.cell?_setCell_other w ⟨g, 1, none⟩ ⟨ob, j, none⟩ (.int .i32 1) (by intro e; cases e; exact hne rfl)
    exact ⟨(k 0).trans hf.1, (k 1).trans hf.2.1, (k 2).trans hf.2.2.1, (k 3).trans hf.2.2.2⟩
  have HO := Lib.hid (once_c B0 g ob oc w (w.setCell ⟨g, 1, none⟩ (.int .i32 1)) hg ((Below.refl _ _).setCell (p := ⟨g, 1, none⟩) hg _) h1 hf1)
  have HD := Lib.hid (do_c g w (Post B0 g w 0 1) q0 q1 (qf 1) HO.out (fun w' hp => by
    obtain ⟨_, R, B, v, _, _, h3, _⟩ := hp
    obtain ⟨p0, p1, _, _, pf⟩ := rb_cell h3
    exact ⟨p0, p1, pf 0, pf 1⟩))
  have nm := method_replace
  clear h h1 hf hf1 HO hob hN
  go_enter Tryz.func84, Tryz.ntmps84
  go_wp2_with (first
    | (go_at_call 134; ((with_reducible refine HD.out.mono ?_); rintro e w2 ⟨rfl, w3, hp, rfl⟩; obtain ⟨hb4, R, B, v, k1, k2, k3, k4⟩ := ((hp.drew).set hg).1.set hg |>.2; have c3 := (rb_cell k3).2.2.1; unfold bsrP at c3; have HT := Lib.hid (Tb.of k4.out); generalize (w3.drew.setCell ⟨g, 0, none⟩ (.int .u32 1)).setCell ⟨g, 1, none⟩ (.int .i32 0) = w4 at *))
    | (go_at_call 257; ((with_reducible refine (bytes_c R s _ HT.out hs).mono ?_); rintro e w5 ⟨rfl, hb5⟩)))
  go_ret
  exact ⟨rfl, hb4.trans (hb5.mono (by have := hb4.size; omega))⟩
end Rp
end Go.Proofs.YtogpghpgnpoioaaGreatDoor
