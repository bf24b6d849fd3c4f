/- The reference's SamePairs at equal lists: what the call returns. -/
import Derived.Test.YtogpghpgnpoioaaGreatDoorKr
import Derived.Test.YtogpghpgnpoioaaGreatDoorKl
import Derived.Test.YtogpghpgnpoioaaGreatDoorKt
import Derived.Shelf.Strings.SlTrimAscii
import Derived.Test.YtogpghpgnpoioaaGreatDoorKs
namespace Go.Proofs.YtogpghpgnpoioaaGreatDoor
open Go.RowKit
set_option maxRecDepth 100000

namespace Mt
def encQ (p : Int × Int) : List Value := [.int .i64 p.1, .int .i64 p.2]
theorem encQ_len (p : Int × Int) : (encQ p).length = 2 := rfl
abbrev QA (w : World) (a : Option Addr) (c : Nat) (ps : List (Int × Int)) : Prop := Br.FA encQ 2 w a c ps
theorem qa_at {w : World} {a : Option Addr} {c : Nat} {ps : List (Int × Int)} (h : QA w a c ps) {k : Nat} {x : Int × Int} (hk : ps[k]? = some x) :
    ∃ b o, a = some ⟨b, o, none⟩ ∧ b < w.heap.size ∧ w.cell? ⟨b, o + k * 2, none⟩ = some (.int .i64 x.1) ∧ w.cell? ⟨b, o + k * 2 + 1, none⟩ = some (.int .i64 x.2) := by
  obtain ⟨b, o, h1, h2, h3⟩ := h.get hk
  exact ⟨b, o, h1, h2, h3 0 _ rfl, h3 1 _ rfl⟩
end Mt

theorem eqIn_pair (d : Nat) (a b : Int) (w : World) : (Op.equalIn (d + 1 + 1) 59 (.agg #[.int .i64 a, .int .i64 b]) (.agg #[.int .i64 a, .int .i64 b])).run Tryz.prog w = .ok true w := by
  have u := fun w => run_underlying (w := w) Tryz.underlying59
  have z := fun w => Tryz.sizeOf3 w
  have e := fun (x : Int) (w : World) => run_equalIn_int (P := Tryz.prog) (w := w) d 3 .i64 .i64 x x Tryz.underlying3
  rw [Op.equalIn]
  have p0 : ∀ w : World, (part 3 #[Value.int .i64 a, Value.int .i64 b] 0).run Tryz.prog w = .ok (.int .i64 a) w := fun w => by simp [part, z, go_sem]
  have p1 : ∀ w : World, (part 3 #[Value.int .i64 a, Value.int .i64 b] 1).run Tryz.prog w = .ok (.int .i64 b) w := fun w => by simp [part, z, go_sem]
  simp [u, z, e, p0, p1, List.range']
theorem neq_pair (a b : Int) (w : World) : (Go.binOp .neq 59 (.agg #[.int .i64 a, .int .i64 b]) (.agg #[.int .i64 a, .int .i64 b])).run Tryz.prog w = .ok (.bool false) w := by
  rw [run_neq_struct, show (10000 : Nat) = 9998 + 1 + 1 from rfl, eqIn_pair]
  rfl
set_option maxHeartbeats 1600000 in
theorem r15_SamePairs_c (ps : List (Int × Int)) (a a2 : Option Addr) (c c2 : Nat) (w : World) (h : Mt.QA w a c ps) (h2 : Mt.QA w a2 c2 ps) :
    Calls Tryz.prog 25 #[.slice a ps.length c, .slice a2 ps.length c2] w fun e w' => e = .returned (.bool true) ∧ Below w.heap.size w w' := by
  have hml : maxLen = 9223372036854775807 := rfl
  have q1 := h.cap
  have q2 := h.max
  have q3 := h2.cap
  have q4 := h2.max
  have HS := Lib.hid h; clear h
  have HS2 := Lib.hid h2; clear h2
  go_enter Tryz.func25, Tryz.ntmps25
  go_wp2
  go_loopw [5] (fun i wr => ∃ (k : Nat), k ≤ ps.length ∧ i = .int .i64 k ∧ Below w.heap.size w wr) (fun i _ => ps.length - (intOf i).toNat)
  case atStart => exact ⟨0, Nat.zero_le _, rfl, Below.refl _ _⟩
  case round =>
    obtain ⟨k, hk, rfl, hb⟩ := hrel
    by_cases hlt : k < ps.length
    · obtain ⟨x, hx⟩ : ∃ x, ps[k]? = some x := ⟨_, List.getElem?_eq_getElem hlt⟩
      obtain ⟨b, o, rfl, hbl, x0, x1⟩ := Mt.qa_at HS.out hx
      obtain ⟨b2, o2, rfl, hbl2, y0, y1⟩ := Mt.qa_at HS2.out hx
      replace x0 := cell_later hb x0
      replace x1 := cell_later hb x1
      replace y0 := cell_later hb y0
      replace y1 := cell_later hb y1
      clear hx
      have hnq := fun w => neq_pair x.1 x.2 w
      have hm : Tryz.prog.eqGuardType Tryz.prog.depth 59 = false := by kernel_rfl
      go_wp2
      go_quiet (fail)
      have hbq := Tx.below_drewN (Below.refl wr.heap.size wr) nq
      generalize wr.drewN nq = w5 at hbq ⊢
      go_wp2
      go_roundw
      case rel => exact ⟨k + 1, hlt, by go_num, Tx.step hb hbq⟩
      case measure => simp [intOf]; omega
    · obtain rfl : k = ps.length := by omega
      go_wp2
      go_ret
      exact ⟨rfl, hb⟩
end Go.Proofs.YtogpghpgnpoioaaGreatDoor

/- The reference's SameRule at equal rules: what the call returns. -/
namespace Go.Proofs.YtogpghpgnpoioaaGreatDoor
open Go.RowKit
set_option maxRecDepth 100000

theorem neq_key (k : Mt.Key) (w : World) : (Go.binOp .neq 39 (.agg #[.string k.tag, .int .u8 k.code.toNat, .int .i64 k.norm, .int .i64 k.weight]) (.agg #[.string k.tag, .int .u8 k.code.toNat, .int .i64 k.norm, .int .i64 k.weight])).run Tryz.prog w = .ok (.bool false) w := by
  have e1 := fun (x : ByteArray) (w : World) => run_equalIn_string (P := Tryz.prog) (w := w) 9998 9 x x Tryz.underlying9
  have e2 := fun (x : Int) (w : World) => run_equalIn_int (P := Tryz.prog) (w := w) 9998 3 .i64 .i64 x x Tryz.underlying3
  have e3 := fun (x : Int) (w : World) => run_equalIn_int (P := Tryz.prog) (w := w) 9998 5 .u8 .u8 x x Tryz.underlying5
  have h := run_equalIn_agg (P := Tryz.prog) (w := w) 9999 39 #[.string k.tag, .int .u8 k.code.toNat, .int .i64 k.norm, .int .i64 k.weight] #[.string k.tag, .int .u8 k.code.toNat, .int .i64 k.norm, .int .i64 k.weight] (by kernel_rfl) (by kernel_rfl)
  rw [run_neq_struct, show (10000 : Nat) = 9999 + 1 from rfl, h]
  simp [go_sem, Op.eqFields, e1, e2, e3]

set_option maxHeartbeats 1600000 in
theorem r15_SameRule_c (m : Mt.Rule) (a a2 : Option Addr) (c c2 : Nat) (w : World) (h : Mt.KyA w a c m.keys) (h2 : Mt.KyA w a2 c2 m.keys) :
    Calls Tryz.prog 12 #[.agg #[.slice a m.keys.length c, .int .i64 m.need], .agg #[.slice a2 m.keys.length c2, .int .i64 m.need]] w fun e w' => e = .returned (.bool true) ∧ Below w.heap.size w w' := by
  have hml : maxLen = 9223372036854775807 := rfl
  have q1 := h.cap
  have q2 := h.max
  have q3 := h2.cap
  have q4 := h2.max
  obtain ⟨W, hW⟩ : ∃ W, (w.alloc (.cells #[.slice a m.keys.length c, .int .i64 m.need] 24)).alloc (.cells #[.slice a2 m.keys.length c2, .int .i64 m.need] 24) = W := ⟨_, rfl⟩
  have hB : Below w.heap.size w W := by rw [← hW]; exact (Tx.newb _ _).alloc (Tx.newb w _).size _
  have m0 : W.cell? ⟨w.heap.size, 0, none⟩ = some (.slice a m.keys.length c) := by rw [← hW]; simp
  have m1 : W.cell? ⟨w.heap.size, 1, none⟩ = some (.int .i64 m.need) := by rw [← hW]; simp
  have n0 : W.cell? ⟨w.heap.size + 1, 0, none⟩ = some (.slice a2 m.keys.length c2) := by rw [← hW]; simp
  have n1 : W.cell? ⟨w.heap.size + 1, 1, none⟩ = some (.int .i64 m.need) := by rw [← hW]; simp
  have HS := Lib.hid (h.below hB); clear h
  have HS2 := Lib.hid (h2.below hB); clear h2
  go_enter Tryz.func12, Tryz.ntmps12
  go_wp2
  clear hW
  go_loopw [5] (fun i wr => ∃ (k : Nat), k ≤ m.keys.length ∧ i = .int .i64 k ∧ Below W.heap.size W wr) (fun i _ => m.keys.length - (intOf i).toNat)
  case atStart => exact ⟨0, Nat.zero_le _, rfl, Below.refl _ _⟩
  case round =>
    obtain ⟨k, hk, rfl, hb⟩ := hrel
    replace m0 := cell_later hb m0
    replace n0 := cell_later hb n0
    by_cases hlt : k < m.keys.length
    · obtain ⟨x, hx⟩ : ∃ x, m.keys[k]? = some x := ⟨_, List.getElem?_eq_getElem hlt⟩
      obtain ⟨b, o, rfl, hbl, x0, x1, x2, x3⟩ := Mt.key_at (HS.out.below hb) hx
      obtain ⟨b2, o2, rfl, hbl2, y0, y1, y2, y3⟩ := Mt.key_at (HS2.out.below hb) hx
      clear hx
      have hnq := fun w => neq_key x w
      have hm : Tryz.prog.eqGuardType Tryz.prog.depth 39 = false := by kernel_rfl
      go_wp2
      go_quiet (fail)
      have hbq := Tx.below_drewN (Below.refl wr.heap.size wr) nq
      generalize wr.drewN nq = w5 at hbq ⊢
      go_wp2
      go_roundw
      case rel => exact ⟨k + 1, hlt, by go_num, Tx.step hb hbq⟩
      case measure => simp [intOf]; omega
    · obtain rfl : k = m.keys.length := by omega
      go_wp2
      go_ret
      exact ⟨rfl, Tx.step hB hb⟩
end Go.Proofs.YtogpghpgnpoioaaGreatDoor

/- The reference's key and Standard: what the calls return. -/
namespace Go.Proofs.YtogpghpgnpoioaaGreatDoor
open Go.RowKit
set_option maxRecDepth 100000

namespace Mt
def std : Rule := ⟨[⟨⟨#[48, 50, 48]⟩, 97, 2, 100⟩, ⟨⟨#[48, 50, 50]⟩, 97, 0, 100⟩, ⟨⟨#[50, 52, 53]⟩, 97, 1, 50⟩, ⟨⟨#[49, 48, 48]⟩, 97, 1, 30⟩, ⟨⟨#[50, 54, 52]⟩, 99, 4, 20⟩, ⟨⟨#[50, 54, 48]⟩, 99, 4, 20⟩], 100⟩
theorem ky_lit {w : World} {g : Nat} {t : TypeId} {ks : List Key} (h : w.heap[g]? = some (.cells (ks.flatMap encK).toArray t (0, 0))) (hl : ks.length ≤ 1000) : KyA w (some ⟨g, 0, none⟩) ks.length ks := by
  obtain ⟨h1, _, h3⟩ := Tx.blk h
  refine ⟨Nat.le_refl _, by unfold maxLen; omega, g, 0, fun _ => ⟨rfl, h3⟩, fun j i x u hx hu => ?_⟩
  have hi : i < 4 := (List.getElem?_eq_some_iff.1 hu).1
  rw [Nat.zero_add, h1, List.getElem?_toArray, Br.flat_at encK 4 encK_len ks j i x hx hi]
  exact hu
theorem alloc_at {W : World} {o : Obj} {n : Nat} (h : W.heap.size = n) : (W.alloc o).heap[n]? = some o := by subst h; exact heap_alloc_new W o
end Mt
set_option maxHeartbeats 400000 in
theorem r15_key_c (t : ByteArray) (c : UInt8) (n k : Int) (w : World) :
    Calls Tryz.prog 34 #[.string t, .int .u8 c.toNat, .int .i64 n, .int .i64 k] w fun e w' => e = .returned (.agg #[.string t, .int .u8 c.toNat, .int .i64 n, .int .i64 k]) ∧ Below w.heap.size w w' := by
  go_enter Tryz.func34, Tryz.ntmps34
  go_wp2
  refine bodyPost_ret (v := .agg #[.string t, .int .u8 c.toNat, .int .i64 n, .int .i64 k]) (by simp [results, Tryz.results34, go_sem]) rfl ⟨rfl, Tx.newb _ _⟩
set_option maxHeartbeats 1600000 in
theorem r15_Standard_c (w : World) :
    Calls Tryz.prog 14 #[] w fun e w' => ∃ g, e = .returned (.agg #[.slice (some ⟨g, 0, none⟩) 6 6, .int .i64 100]) ∧ Mt.KyA w' (some ⟨g, 0, none⟩) 6 Mt.std.keys ∧ Below w.heap.size w w' := by
  have K := fun (t : ByteArray) (c : UInt8) (n k : Int) (w : World) (v : Int) (hv : v = (c.toNat : Int)) => show Calls Tryz.prog 34 #[.string t, .int .u8 v, .int .i64 n, .int .i64 k] w fun e w' => e = .returned (.agg #[.string t, .int .u8 v, .int .i64 n, .int .i64 k]) ∧ Below w.heap.size w w' by rw [hv]; exact r15_key_c t c n k w
  have hR : (w.alloc (.cells #[.slice none 0 0, .int .i64 0] 24)).heap[w.heap.size]? = some (.cells #[.slice none 0 0, .int .i64 0] 24 (0, 0)) := heap_alloc_new w _
  have hT := Tx.newb w (.cells #[.slice none 0 0, .int .i64 0] 24)
  go_enter Tryz.func14, Tryz.ntmps14
  go_wp2_with (go_at_call 34; first
    | ((with_reducible refine (K _ 97 _ _ _ 97 rfl).mono ?_); rintro e wk ⟨rfl, hbk⟩; replace hR := Tx.blk_later hR hbk; replace hT := Tx.step hT hbk; clear hbk; obtain ⟨r1, r2, r3⟩ := Tx.blk hR; have y0 := r1 0; have y1 := r1 1; have z0 := r2 0; have z1 := r2 1; simp at y0 y1)
    | ((with_reducible refine (K _ 99 _ _ _ 99 rfl).mono ?_); rintro e wk ⟨rfl, hbk⟩; replace hR := Tx.blk_later hR hbk; replace hT := Tx.step hT hbk; clear hbk; obtain ⟨r1, r2, r3⟩ := Tx.blk hR; have y0 := r1 0; have y1 := r1 1; have z0 := r2 0; have z1 := r2 1; simp at y0 y1))
  refine bodyPost_ret (v := .agg #[.slice (some ⟨wk.heap.size, 0, none⟩) 6 6, .int .i64 100]) (by simp [results, Tryz.results14, go_sem, r1, r3]) rfl ⟨wk.heap.size, rfl, ?_, ?_⟩
  · refine Mt.ky_lit (t := 39) (ks := Mt.std.keys) ?_ (by decide)
    exact Mt.alloc_at (by simp [World.setCell])
  · exact ((hT.setCell (p := ⟨w.heap.size, 0, none⟩) (Nat.le_refl _) _).setCell (p := ⟨w.heap.size, 1, none⟩) (Nat.le_refl _) _).alloc (by simp [World.setCell]; omega) _
end Go.Proofs.YtogpghpgnpoioaaGreatDoor

/- The program's Standard: what the call returns. -/
namespace Go.Proofs.YtogpghpgnpoioaaGreatDoor
open Go.RowKit
set_option maxRecDepth 100000

set_option maxHeartbeats 1600000 in
theorem match_Standard_c (w : World) :
    Calls Tryz.prog 13 #[] w fun e w' => ∃ g, e = .returned (.agg #[.slice (some ⟨g, 0, none⟩) 6 6, .int .i64 100]) ∧ Mt.KyA w' (some ⟨g, 0, none⟩) 6 Mt.std.keys ∧ Below w.heap.size w w' := by
  go_enter Tryz.func13, Tryz.ntmps13
  go_wp2
  refine bodyPost_ret (v := .agg #[.slice (some ⟨w.heap.size + 1, 0, none⟩) 6 6, .int .i64 100]) (by simp [results, Tryz.results13, go_sem]) rfl ⟨w.heap.size + 1, rfl, ?_, ?_⟩
  · refine Mt.ky_lit (t := 39) (ks := Mt.std.keys) ?_ (by decide)
    exact Mt.alloc_at (by simp)
  · exact (Tx.newb _ _).alloc (Tx.newb w _).size _
end Go.Proofs.YtogpghpgnpoioaaGreatDoor

/- The reference's Right of a rule: what the call returns. -/
namespace Go.Proofs.YtogpghpgnpoioaaGreatDoor
open Go.RowKit
set_option maxRecDepth 100000

namespace Mt
def keyE (k : Key) : Int := if Rc.tagOk k.tag.data.toList = false then 6 else if Rc.codeB k.code = false then 1 else if k.norm < 0 ∨ 4 < k.norm ∨ k.weight < 1 ∨ 100 < k.weight then 2 else 0
def keysE : List Key → Int
  | [] => 0
  | k :: r => if keyE k = 0 then keysE r else keyE k
def ruleE (m : Rule) : Int := if m.keys.length = 0 then 8 else if 8 < m.keys.length then 13 else if keysE m.keys = 0 then (if m.need < 1 ∨ 800 < m.need then 2 else 0) else keysE m.keys
theorem keysE_drop {ks : List Key} {k : Nat} {x : Key} (h : ks[k]? = some x) : keysE (ks.drop k) = if keyE x = 0 then keysE (ks.drop (k + 1)) else keyE x := by
  obtain ⟨hk, e⟩ := List.getElem?_eq_some_iff.1 h
  rw [List.drop_eq_getElem_cons hk, e, keysE]
theorem keyE_bounds {k : Key} (h : keyE k = 0) : Gk k := by
  unfold keyE at h
  split at h
  · cases h
  · split at h
    · cases h
    · split at h
      · cases h
      · unfold Gk; omega
theorem keysE_all : ∀ {ks : List Key}, keysE ks = 0 → ∀ k ∈ ks, Gk k
  | [], _, k, hk => by cases hk
  | x :: r, h, k, hk => by
    rw [keysE] at h
    split at h
    · rename_i h1
      rcases List.mem_cons.1 hk with rfl | hk
      · exact keyE_bounds h1
      · exact keysE_all h k hk
    · rename_i h1; exact absurd h h1
theorem ruleE_good {m : Rule} (h : ruleE m = 0) : Gm m := by
  unfold ruleE at h
  split at h
  · cases h
  · split at h
    · cases h
    · split at h
      · split at h
        · cases h
        · rename_i h2 h3 h4
          exact ⟨by omega, keysE_all h3, by omega⟩
      · rename_i h2 h3; exact absurd h h3
end Mt

set_option maxHeartbeats 1600000 in
theorem r15_Right_c (m : Mt.Rule) (ka : Option Addr) (kc : Nat) (w : World) (hK : Mt.KyA w ka kc m.keys) :
    Calls Tryz.prog 11 #[.agg #[.slice ka m.keys.length kc, .int .i64 m.need]] w fun e w' => e = .returned (.int .i64 (Mt.ruleE m)) ∧ Below w.heap.size w w' := by
  have hml : maxLen = 9223372036854775807 := rfl
  obtain ⟨W, hW⟩ : ∃ W, w.alloc (.cells #[.slice ka m.keys.length kc, .int .i64 m.need] 24) = W := ⟨_, rfl⟩
  have hB : Below w.heap.size w W := by rw [← hW]; exact Tx.newb _ _
  have m0 : W.cell? ⟨w.heap.size, 0, none⟩ = some (.slice ka m.keys.length kc) := by rw [← hW]; simp
  have m1 : W.cell? ⟨w.heap.size, 1, none⟩ = some (.int .i64 m.need) := by rw [← hW]; simp
  have HK := Lib.hid (hK.below hB)
  have hcap := hK.cap
  have hmax := hK.max
  clear hK
  by_cases h0 : m.keys.length = 0
  · have HE : Hid (Mt.ruleE m = 8) := Lib.hid (by unfold Mt.ruleE; rw [if_pos h0])
    have e1 : ((m.keys.length : Int) == 0) = true := by rw [h0]; rfl
    go_enter Tryz.func11, Tryz.ntmps11
    go_wp2
    go_ret
    exact ⟨by rw [HE.out]; rfl, by first | exact hB | exact Tx.newb _ _⟩
  have e1 : ((m.keys.length : Int) == 0) = false := beq_eq_false_iff_ne.2 (by omega)
  by_cases h8 : 8 < m.keys.length
  · have HE : Hid (Mt.ruleE m = 13) := Lib.hid (by unfold Mt.ruleE; rw [if_neg h0, if_pos h8])
    have e2 : (m.keys.length : Int) > 8 := by omega
    go_enter Tryz.func11, Tryz.ntmps11
    go_wp2
    go_ret
    exact ⟨by rw [HE.out]; rfl, by first | exact hB | exact Tx.newb _ _⟩
  have e2 : ¬ (m.keys.length : Int) > 8 := by omega
  have hE : Mt.ruleE m = if Mt.keysE m.keys = 0 then (if m.need < 1 ∨ 800 < m.need then 2 else 0) else Mt.keysE m.keys := by
    unfold Mt.ruleE; rw [if_neg h0, if_neg h8]
  have HE := Lib.hid hE; clear hE
  go_enter Tryz.func11, Tryz.ntmps11
  go_wp2
  clear hW
  go_loopw [3] (fun i wr => ∃ (k : Nat), k ≤ m.keys.length ∧ i = .int .i64 k ∧ Hid (Mt.keysE m.keys = Mt.keysE (m.keys.drop k)) ∧ Below W.heap.size W wr) (fun i _ => m.keys.length - (intOf i).toNat)
  case atStart => exact ⟨0, Nat.zero_le _, rfl, Lib.hid (by rw [List.drop_zero]), Below.refl _ _⟩
  case round =>
    obtain ⟨k, hk, rfl, hI, hb⟩ := hrel
    have hbs := hb.size
    replace m0 := cell_later hb m0
    replace m1 := cell_later hb m1
    by_cases hlt : k < m.keys.length
    · obtain ⟨y, hy⟩ : ∃ y, m.keys[k]? = some y := ⟨_, List.getElem?_eq_getElem hlt⟩
      obtain ⟨kb, ko, rfl, hkl, k0, k1, k2, k3⟩ := Mt.key_at (HK.out.below hb) hy
      have hd := Mt.keysE_drop hy
      rw [← hI.out] at hd
      have TC := fun w => r07_Tag_c y.tag w
      have CC := fun w => r07_Code_c y.code w
      have bad : ∀ n : Int, n ≠ 0 → Mt.keyE y = n → Hid (Mt.ruleE m = n) := fun n hn h9 => by
        rw [h9, if_neg hn] at hd
        exact Lib.hid (by rw [HE.out, hd, if_neg hn])
      cases ht : Rc.tagOk y.tag.data.toList with
      | false =>
        have HQ := bad 6 (by decide) (by unfold Mt.keyE; rw [if_pos ht])
        rw [ht] at TC
        clear hd bad hy ht hI
        go_wp2_with (first
          | (go_at_call 32; (with_reducible refine (TC _).mono ?_); rintro e w1 ⟨rfl, rfl⟩))
        go_ret
        exact ⟨by rw [HQ.out]; rfl, Tx.step hB (hb.alloc hbs _)⟩
      | true =>
        rw [ht] at TC
        cases hc : Rc.codeB y.code with
        | false =>
          have HQ := bad 1 (by decide) (by unfold Mt.keyE; rw [if_neg (by rw [ht]; decide), if_pos hc])
          rw [hc] at CC
          clear hd bad hy ht hI hc
          go_wp2_with (first
            | (go_at_call 32; (with_reducible refine (TC _).mono ?_); rintro e w1 ⟨rfl, rfl⟩)
            | (go_at_call 33; (with_reducible refine (CC _).mono ?_); rintro e w1 ⟨rfl, rfl⟩))
          go_ret
          exact ⟨by rw [HQ.out]; rfl, Tx.step hB (hb.alloc hbs _)⟩
        | true =>
          rw [hc] at CC
          by_cases hr : y.norm < 0 ∨ 4 < y.norm ∨ y.weight < 1 ∨ 100 < y.weight
          · have HQ := bad 2 (by decide) (by unfold Mt.keyE; rw [if_neg (by rw [ht]; decide), if_neg (by rw [hc]; decide), if_pos hr])
            clear hd bad hy ht hI hc
            rcases (by omega : y.norm < 0 ∨ (¬ y.norm < 0 ∧ y.norm > 4) ∨ (¬ y.norm < 0 ∧ ¬ y.norm > 4 ∧ y.weight < 1) ∨ (¬ y.norm < 0 ∧ ¬ y.norm > 4 ∧ ¬ y.weight < 1 ∧ y.weight > 100)) with g1 | ⟨g1, g2⟩ | ⟨g1, g2, g3⟩ | ⟨g1, g2, g3, g4⟩
            all_goals (
              clear hr
              go_wp2_with (first
                | (go_at_call 32; (with_reducible refine (TC _).mono ?_); rintro e w1 ⟨rfl, rfl⟩)
                | (go_at_call 33; (with_reducible refine (CC _).mono ?_); rintro e w1 ⟨rfl, rfl⟩))
              go_ret
              exact ⟨by rw [HQ.out]; rfl, Tx.step hB (hb.alloc hbs _)⟩)
          · have HN : Hid (Mt.keysE m.keys = Mt.keysE (m.keys.drop (k + 1))) := Lib.hid (by
              rw [hd, if_pos (by unfold Mt.keyE; rw [if_neg (by rw [ht]; decide), if_neg (by rw [hc]; decide), if_neg hr])])
            have g1 : ¬ y.norm < 0 := by omega
            have g2 : ¬ y.norm > 4 := by omega
            have g3 : ¬ y.weight < 1 := by omega
            have g4 : ¬ y.weight > 100 := by omega
            clear hd bad hy ht hI hc hr
            go_wp2_with (first
              | (go_at_call 32; (with_reducible refine (TC _).mono ?_); rintro e w1 ⟨rfl, rfl⟩)
              | (go_at_call 33; (with_reducible refine (CC _).mono ?_); rintro e w1 ⟨rfl, rfl⟩))
            go_roundw
            case rel => exact ⟨k + 1, hlt, by go_num, HN, hb.alloc hbs _⟩
            case measure => simp [intOf]; omega
    · obtain rfl : k = m.keys.length := by omega
      have hk0 : Mt.keysE m.keys = 0 := by rw [hI.out, List.drop_length]; rfl
      have hE2 := HE.out
      rw [if_pos hk0] at hE2
      have HE2 := Lib.hid hE2
      clear hE2 hI hk0
      rcases (by omega : m.need < 1 ∨ (¬ m.need < 1 ∧ m.need > 800) ∨ (¬ m.need < 1 ∧ ¬ m.need > 800)) with g1 | ⟨g1, g2⟩ | ⟨g1, g2⟩
      · have HQ : Hid (Mt.ruleE m = 2) := Lib.hid (by rw [HE2.out, if_pos (by omega)])
        go_wp2
        go_ret
        exact ⟨by rw [HQ.out]; rfl, Tx.step hB hb⟩
      · have HQ : Hid (Mt.ruleE m = 2) := Lib.hid (by rw [HE2.out, if_pos (by omega)])
        go_wp2
        go_ret
        exact ⟨by rw [HQ.out]; rfl, Tx.step hB hb⟩
      · have HQ : Hid (Mt.ruleE m = 0) := Lib.hid (by rw [HE2.out, if_neg (by omega)])
        go_wp2
        go_ret
        exact ⟨by rw [HQ.out]; rfl, Tx.step hB hb⟩
end Go.Proofs.YtogpghpgnpoioaaGreatDoor

/- The program's check of a rule: what the calls return. -/
namespace Go.Proofs.YtogpghpgnpoioaaGreatDoor
open Go.RowKit
set_option maxRecDepth 100000

namespace Mt
def cut10 : By := [48, 49, 50, 51, 52, 53, 54, 55, 56, 57]
theorem cut_dig (c : UInt8) : cut10.contains c = dig c := by
  have h : ∀ n < 256, cut10.contains (UInt8.ofNat n) = dig (UInt8.ofNat n) := by decide +kernel
  have := h c.toNat c.toNat_lt
  rwa [UInt8.ofNat_toNat] at this
theorem drop_all (p : UInt8 → Bool) : ∀ l : By, l.dropWhile p = [] ↔ l.all p = true
  | [] => by simp
  | c :: r => by
    rw [List.dropWhile_cons, List.all_cons]
    cases hc : p c with
    | true => rw [if_pos rfl, Bool.true_and]; exact drop_all p r
    | false => simp
theorem drop_rest (p : UInt8 → Bool) : ∀ l : By, (l.dropWhile p).all p = l.all p
  | [] => rfl
  | c :: r => by
    rw [List.dropWhile_cons]
    cases hc : p c with
    | true => rw [if_pos rfl, List.all_cons, hc, Bool.true_and]; exact drop_rest p r
    | false => rw [if_neg (by simp)]
theorem trim_digits (l : By) : Lib.trimS l cut10 = [] ↔ digits l = true := by
  have hp : (fun c => cut10.contains c) = dig := funext cut_dig
  unfold Lib.trimS Lib.trimLeftS Lib.trimRightS
  rw [hp, drop_all, List.all_reverse, drop_rest, List.all_reverse]
  rfl
end Mt

theorem match_digits_c (s : ByteArray) (w : World) (hs : s.size ≤ 9223372036854775807) :
    Calls Tryz.prog 51 #[.string s] w fun e w' => e = .returned (.bool (Mt.digits s.data.toList)) ∧ Below w.heap.size w w' := by
  have hT : Calls Tryz.prog 75 #[.string s, .string ⟨#[48, 49, 50, 51, 52, 53, 54, 55, 56, 57]⟩] w fun e w' => e = .returned (.string ⟨(Lib.trimS s.data.toList (⟨#[48, 49, 50, 51, 52, 53, 54, 55, 56, 57]⟩ : ByteArray).data.toList).toArray⟩) ∧ Below w.heap.size w w' := Any.strings_Trim_laid Tryz.lays160 (by kernel_rfl) s ⟨#[48, 49, 50, 51, 52, 53, 54, 55, 56, 57]⟩ w (by omega) (by decide) (ascii_of_all (by decide))
  have hq : ((⟨(Lib.trimS s.data.toList Mt.cut10).toArray⟩ : ByteArray).toList == []) = Mt.digits s.data.toList := by
    rw [Lib.toList_data, Bool.eq_iff_iff, ← Mt.trim_digits]
    simp
  obtain ⟨T, hTe⟩ : ∃ T : ByteArray, (⟨(Lib.trimS s.data.toList Mt.cut10).toArray⟩ : ByteArray) = T := ⟨_, rfl⟩
  rw [show (⟨#[48, 49, 50, 51, 52, 53, 54, 55, 56, 57]⟩ : ByteArray).data.toList = Mt.cut10 from rfl, hTe] at hT
  rw [hTe] at hq
  have HQ := Lib.hid hq
  have HT := Lib.hid hT
  clear hT hTe hq
  go_enter Tryz.func51, Tryz.ntmps51
  go_wp2_with (go_at_call 75; ((with_reducible refine HT.out.mono ?_); rintro e w1 ⟨rfl, hb1⟩))
  go_ret
  exact ⟨Tx.retb (by rw [← HQ.out]; first | rfl | simp), hb1⟩

set_option maxHeartbeats 1600000 in
theorem match_key_c (k : Mt.Key) (w : World) (hs : k.tag.size ≤ 9223372036854775807) :
    Calls Tryz.prog 31 #[.agg #[.string k.tag, .int .u8 k.code.toNat, .int .i64 k.norm, .int .i64 k.weight]] w fun e w' => e = .returned (.int .i64 (Mt.keyE k)) ∧ Below w.heap.size w w' := by
  obtain ⟨W, hW⟩ : ∃ W, w.alloc (.cells #[.string k.tag, .int .u8 k.code.toNat, .int .i64 k.norm, .int .i64 k.weight] 39) = W := ⟨_, rfl⟩
  have hB : Below w.heap.size w W := by rw [← hW]; exact Tx.newb _ _
  have k0 : W.cell? ⟨w.heap.size, 0, none⟩ = some (.string k.tag) := by rw [← hW]; simp
  have k1 : W.cell? ⟨w.heap.size, 1, none⟩ = some (.int .u8 k.code.toNat) := by rw [← hW]; simp
  have k2 : W.cell? ⟨w.heap.size, 2, none⟩ = some (.int .i64 k.norm) := by rw [← hW]; simp
  have k3 : W.cell? ⟨w.heap.size, 3, none⟩ = some (.int .i64 k.weight) := by rw [← hW]; simp
  have DC := match_digits_c k.tag W hs
  obtain ⟨E, hE⟩ : ∃ E, Mt.keyE k = E := ⟨_, rfl⟩
  rw [hE]
  unfold Mt.keyE at hE
  by_cases h3 : k.tag.size = 3
  · obtain ⟨x, y, z, hxyz⟩ := Rc.three h3
    have h3i : ((k.tag.size : Int) != 3) = false := by rw [h3]; rfl
    have hTok : Rc.tagOk k.tag.data.toList = (Mt.digits k.tag.data.toList && !decide (k.tag.data.toList < ([48, 49, 48] : List UInt8))) := by
      rw [hxyz]
      unfold Mt.digits Rc.tagOk
      show (true && Rc.digB x && Rc.digB y && Rc.digB z && _) = ((Mt.dig x && (Mt.dig y && (Mt.dig z && true))) && _)
      have e : ∀ c, Rc.digB c = Mt.dig c := fun c => by unfold Rc.digB Mt.dig; simp
      rw [e, e, e]
      simp [Bool.and_assoc]
    have hls : Op.bytesLess k.tag.toList [48, 49, 48] = decide (k.tag.data.toList < ([48, 49, 48] : List UInt8)) := by rw [Go.Proofs.bytesLess_eq, Lib.toList_data]
    clear hxyz h3
    rw [hTok] at hE
    cases hd : Mt.digits k.tag.data.toList with
    | false =>
      rw [hd] at DC hE
      rw [if_pos (by rfl)] at hE
      have HE := Lib.hid hE.symm
      clear hE hls hTok hd
      go_enter Tryz.func31, Tryz.ntmps31
      go_wp2_with (go_at_call 51; ((with_reducible refine DC.mono ?_); rintro e w1 ⟨rfl, hb1⟩))
      go_ret
      exact ⟨by rw [HE.out]; rfl, Tx.step hB hb1⟩
    | true =>
      rw [hd] at DC hE
      by_cases hl : k.tag.data.toList < ([48, 49, 48] : List UInt8)
      · rw [decide_eq_true hl] at hE hls
        rw [if_pos (by rfl)] at hE
        have HE := Lib.hid hE.symm
        clear hE hTok hd hl
        go_enter Tryz.func31, Tryz.ntmps31
        go_wp2_with (go_at_call 51; ((with_reducible refine DC.mono ?_); rintro e w1 ⟨rfl, hb1⟩; replace k0 := cell_later hb1 k0; replace k1 := cell_later hb1 k1; replace k2 := cell_later hb1 k2; replace k3 := cell_later hb1 k3))
        go_ret
        exact ⟨by rw [HE.out]; rfl, Tx.step hB hb1⟩
      · rw [decide_eq_false hl] at hE hls
        rw [if_neg (by decide)] at hE
        cases hc : Rc.codeB k.code with
        | false =>
          rw [hc, if_pos rfl] at hE
          have hcc : ¬ (48 ≤ (k.code.toNat : Int) ∧ (k.code.toNat : Int) ≤ 57) ∧ ¬ (97 ≤ (k.code.toNat : Int) ∧ (k.code.toNat : Int) ≤ 122) := by
            unfold Rc.codeB Rc.digB Rc.lowB at hc
            simp at hc
            omega
          have HE := Lib.hid hE.symm
          rcases (by omega : ((k.code.toNat : Int) < 97 ∧ (k.code.toNat : Int) < 48) ∨ ((k.code.toNat : Int) < 97 ∧ ¬ (k.code.toNat : Int) < 48 ∧ (k.code.toNat : Int) > 57) ∨ (¬ (k.code.toNat : Int) < 97 ∧ (k.code.toNat : Int) > 122 ∧ ¬ (k.code.toNat : Int) < 48 ∧ (k.code.toNat : Int) > 57)) with ⟨g1, g2⟩ | ⟨g1, g2, g3⟩ | ⟨g1, g2, g3, g4⟩
          all_goals (
            clear hE hTok hd hl hcc hc
            go_enter Tryz.func31, Tryz.ntmps31
            go_wp2_with (go_at_call 51; ((with_reducible refine DC.mono ?_); rintro e w1 ⟨rfl, hb1⟩; replace k0 := cell_later hb1 k0; replace k1 := cell_later hb1 k1; replace k2 := cell_later hb1 k2; replace k3 := cell_later hb1 k3))
            go_ret
            exact ⟨by rw [HE.out]; rfl, Tx.step hB hb1⟩)
        | true =>
          rw [hc, if_neg (by decide)] at hE
          have hcc : (48 ≤ (k.code.toNat : Int) ∧ (k.code.toNat : Int) ≤ 57) ∨ (97 ≤ (k.code.toNat : Int) ∧ (k.code.toNat : Int) ≤ 122) := by
            unfold Rc.codeB Rc.digB Rc.lowB at hc
            simp at hc
            omega
          by_cases hr : k.norm < 0 ∨ 4 < k.norm ∨ k.weight < 1 ∨ 100 < k.weight
          · rw [if_pos hr] at hE
            have HE := Lib.hid hE.symm
            rcases (by omega : ((k.code.toNat : Int) < 97 ∧ ¬ (k.code.toNat : Int) < 48 ∧ ¬ (k.code.toNat : Int) > 57) ∨ (¬ (k.code.toNat : Int) < 97 ∧ ¬ (k.code.toNat : Int) > 122 ∧ ¬ (k.code.toNat : Int) < 48)) with ⟨g1, g2, g3⟩ | ⟨g1, g2, g3⟩
            all_goals (
              rcases (by omega : k.norm < 0 ∨ (¬ k.norm < 0 ∧ k.norm > 4) ∨ (¬ k.norm < 0 ∧ ¬ k.norm > 4 ∧ k.weight < 1) ∨ (¬ k.norm < 0 ∧ ¬ k.norm > 4 ∧ ¬ k.weight < 1 ∧ k.weight > 100)) with f1 | ⟨f1, f2⟩ | ⟨f1, f2, f3⟩ | ⟨f1, f2, f3, f4⟩
              all_goals (
                clear hE hTok hd hl hcc hc hr
                go_enter Tryz.func31, Tryz.ntmps31
                go_wp2_with (go_at_call 51; ((with_reducible refine DC.mono ?_); rintro e w1 ⟨rfl, hb1⟩; replace k0 := cell_later hb1 k0; replace k1 := cell_later hb1 k1; replace k2 := cell_later hb1 k2; replace k3 := cell_later hb1 k3))
                go_ret
                exact ⟨by rw [HE.out]; rfl, Tx.step hB hb1⟩))
          · rw [if_neg hr] at hE
            have HE := Lib.hid hE.symm
            have f1 : ¬ k.norm < 0 := by omega
            have f2 : ¬ k.norm > 4 := by omega
            have f3 : ¬ k.weight < 1 := by omega
            have f4 : ¬ k.weight > 100 := by omega
            rcases (by omega : ((k.code.toNat : Int) < 97 ∧ ¬ (k.code.toNat : Int) < 48 ∧ ¬ (k.code.toNat : Int) > 57) ∨ (¬ (k.code.toNat : Int) < 97 ∧ ¬ (k.code.toNat : Int) > 122 ∧ ¬ (k.code.toNat : Int) < 48)) with ⟨g1, g2, g3⟩ | ⟨g1, g2, g3⟩
            all_goals (
              clear hE hTok hd hl hcc hc hr
              go_enter Tryz.func31, Tryz.ntmps31
              go_wp2_with (go_at_call 51; ((with_reducible refine DC.mono ?_); rintro e w1 ⟨rfl, hb1⟩; replace k0 := cell_later hb1 k0; replace k1 := cell_later hb1 k1; replace k2 := cell_later hb1 k2; replace k3 := cell_later hb1 k3))
              go_ret
              exact ⟨by rw [HE.out]; rfl, Tx.step hB hb1⟩)
  · have h3i : ((k.tag.size : Int) != 3) = true := bne_iff_ne.2 (by omega)
    rw [if_pos (by unfold Rc.tagOk; rw [← Lib.size_eq]; simp [h3])] at hE
    have HE := Lib.hid hE.symm
    clear hE DC h3
    go_enter Tryz.func31, Tryz.ntmps31
    go_wp2
    go_ret
    exact ⟨by rw [HE.out]; rfl, hB⟩
end Go.Proofs.YtogpghpgnpoioaaGreatDoor

/- The program's Right of a rule: what the call returns. -/
namespace Go.Proofs.YtogpghpgnpoioaaGreatDoor
open Go.RowKit
set_option maxRecDepth 100000

set_option maxHeartbeats 1600000 in
theorem match_Right_c (m : Mt.Rule) (ka : Option Addr) (kc : Nat) (w : World) (hK : Mt.KyA w ka kc m.keys) (hsz : ∀ k ∈ m.keys, k.tag.size ≤ 9223372036854775807) :
    Calls Tryz.prog 10 #[.agg #[.slice ka m.keys.length kc, .int .i64 m.need]] w fun e w' => e = .returned (.int .i64 (Mt.ruleE m)) ∧ Below w.heap.size w w' := by
  have hml : maxLen = 9223372036854775807 := rfl
  obtain ⟨W, hW⟩ : ∃ W, w.alloc (.cells #[.slice ka m.keys.length kc, .int .i64 m.need] 24) = W := ⟨_, rfl⟩
  have hB : Below w.heap.size w W := by rw [← hW]; exact Tx.newb _ _
  have m0 : W.cell? ⟨w.heap.size, 0, none⟩ = some (.slice ka m.keys.length kc) := by rw [← hW]; simp
  have m1 : W.cell? ⟨w.heap.size, 1, none⟩ = some (.int .i64 m.need) := by rw [← hW]; simp
  have HK := Lib.hid (hK.below hB)
  have HZ := Lib.hid hsz
  have hcap := hK.cap
  have hmax := hK.max
  clear hK hsz
  by_cases h0 : m.keys.length = 0
  · have HE : Hid (Mt.ruleE m = 8) := Lib.hid (by unfold Mt.ruleE; rw [if_pos h0])
    have e1 : ((m.keys.length : Int) == 0) = true := by rw [h0]; rfl
    go_enter Tryz.func10, Tryz.ntmps10
    go_wp2
    go_ret
    exact ⟨by rw [HE.out]; rfl, by first | exact hB | exact Tx.newb _ _⟩
  have e1 : ((m.keys.length : Int) == 0) = false := beq_eq_false_iff_ne.2 (by omega)
  by_cases h8 : 8 < m.keys.length
  · have HE : Hid (Mt.ruleE m = 13) := Lib.hid (by unfold Mt.ruleE; rw [if_neg h0, if_pos h8])
    have e2 : (m.keys.length : Int) > 8 := by omega
    go_enter Tryz.func10, Tryz.ntmps10
    go_wp2
    go_ret
    exact ⟨by rw [HE.out]; rfl, by first | exact hB | exact Tx.newb _ _⟩
  have e2 : ¬ (m.keys.length : Int) > 8 := by omega
  have hE : Mt.ruleE m = if Mt.keysE m.keys = 0 then (if m.need < 1 ∨ 800 < m.need then 2 else 0) else Mt.keysE m.keys := by
    unfold Mt.ruleE; rw [if_neg h0, if_neg h8]
  have HE := Lib.hid hE; clear hE
  go_enter Tryz.func10, Tryz.ntmps10
  go_wp2
  clear hW
  go_loopw [19] (fun i wr => ∃ (k : Nat), k ≤ m.keys.length ∧ i = .int .i64 k ∧ Hid (Mt.keysE m.keys = Mt.keysE (m.keys.drop k)) ∧ Below W.heap.size W wr) (fun i _ => m.keys.length - (intOf i).toNat)
  case atStart => exact ⟨0, Nat.zero_le _, rfl, Lib.hid (by rw [List.drop_zero]), Below.refl _ _⟩
  case round =>
    obtain ⟨k, hk, rfl, hI, hb⟩ := hrel
    have hbs := hb.size
    replace m0 := cell_later hb m0
    replace m1 := cell_later hb m1
    by_cases hlt : k < m.keys.length
    · obtain ⟨y, hy⟩ : ∃ y, m.keys[k]? = some y := ⟨_, List.getElem?_eq_getElem hlt⟩
      obtain ⟨kb, ko, rfl, hkl, k0, k1, k2, k3⟩ := Mt.key_at (HK.out.below hb) hy
      have hd := Mt.keysE_drop hy
      rw [← hI.out] at hd
      have KC := fun w => match_key_c y w (HZ.out y (List.mem_of_getElem? hy))
      obtain ⟨E, hEy⟩ : ∃ E, Mt.keyE y = E := ⟨_, rfl⟩
      rw [hEy] at hd KC
      by_cases he : E = 0
      · rw [if_pos he] at hd
        have HN := Lib.hid hd
        subst he
        clear hd hy hI hEy
        go_wp2_with (go_at_call 31; ((with_reducible refine (KC _).mono ?_); rintro e w1 ⟨rfl, hb1⟩))
        go_roundw
        case rel => exact ⟨k + 1, hlt, by go_num, HN, Tx.step (hb.alloc hbs _) hb1⟩
        case measure => simp [intOf]; omega
      · rw [if_neg he] at hd
        have HQ : Hid (Mt.ruleE m = E) := Lib.hid (by rw [HE.out, hd, if_neg he])
        have he2 : (E != 0) = true := bne_iff_ne.2 he
        clear hd hy hI hEy he
        go_wp2_with (go_at_call 31; ((with_reducible refine (KC _).mono ?_); rintro e w1 ⟨rfl, hb1⟩))
        go_ret
        exact ⟨by rw [HQ.out]; rfl, Tx.step hB (Tx.step (hb.alloc hbs _) hb1)⟩
    · obtain rfl : k = m.keys.length := by omega
      have hk0 : Mt.keysE m.keys = 0 := by rw [hI.out, List.drop_length]; rfl
      have hE2 := HE.out
      rw [if_pos hk0] at hE2
      have HE2 := Lib.hid hE2
      clear hE2 hI hk0
      rcases (by omega : m.need < 1 ∨ (¬ m.need < 1 ∧ m.need > 800) ∨ (¬ m.need < 1 ∧ ¬ m.need > 800)) with g1 | ⟨g1, g2⟩ | ⟨g1, g2⟩
      · have HQ : Hid (Mt.ruleE m = 2) := Lib.hid (by rw [HE2.out, if_pos (by omega)])
        go_wp2
        go_ret
        exact ⟨by rw [HQ.out]; rfl, Tx.step hB hb⟩
      · have HQ : Hid (Mt.ruleE m = 2) := Lib.hid (by rw [HE2.out, if_pos (by omega)])
        go_wp2
        go_ret
        exact ⟨by rw [HQ.out]; rfl, Tx.step hB hb⟩
      · have HQ : Hid (Mt.ruleE m = 0) := Lib.hid (by rw [HE2.out, if_neg (by omega)])
        go_wp2
        go_ret
        exact ⟨by rw [HQ.out]; rfl, Tx.step hB hb⟩
end Go.Proofs.YtogpghpgnpoioaaGreatDoor

/- Plain: the chapter's examples of matching, worked out; no program stands in this file. -/
namespace Go.Proofs.YtogpghpgnpoioaaGreatDoor
set_option maxRecDepth 100000
namespace Mt
open Rc
def mf (t : By) (c : UInt8) (v : By) : Fl := ⟨⟨t.toArray⟩, ⟨#[32, 32]⟩, [(c, ⟨v.toArray⟩)], 0⟩
def fA : List Fl := [mf [50, 52, 53] 97 [68, 111, 103, 115, 32, 38, 32, 67, 97, 116, 115], mf [49, 48, 48] 97 [83, 109, 105, 116, 104], mf [50, 54, 52] 99 [99, 49, 50, 51, 52, 53], mf [50, 54, 52] 99 [91, 49, 57, 57, 56, 93]]
def fB : List Fl := [mf [49, 48, 48] 97 [83, 77, 73, 84, 72], mf [50, 52, 53] 97 [68, 111, 103, 115, 44, 32, 99, 97, 116, 115]]
def fC : List Fl := [mf [49, 48, 48] 97 [83, 109, 105, 116, 104], mf [50, 52, 53] 97 [100, 111, 103, 115, 32, 99, 97, 116, 115], mf [50, 54, 52] 99 [49, 57, 57, 56]]
def rA : Rd := ⟨1, 3, 1, ⟨#[101, 110, 103]⟩, fA⟩
def rB : Rd := ⟨2, 3, 1, ⟨#[101, 110, 103]⟩, fB⟩
def rC : Rd := ⟨3, 3, 1, ⟨#[101, 110, 103]⟩, fC⟩
def rX : List Rd := [rA, rB, rC]
def k1 : Key := ⟨⟨#[50, 52, 53]⟩, 97, 1, 1⟩
def k2 : Key := ⟨⟨#[50, 52, 53]⟩, 97, 3, 1⟩
def k3 : Key := ⟨⟨#[50, 54, 52]⟩, 99, 4, 1⟩
theorem ex_k1 : keys k1 fA = [[100, 111, 103, 115, 32, 99, 97, 116, 115]] := by decide +kernel
theorem ex_k2 : keys k2 fA = [[100, 111, 103, 115]] := by decide +kernel
theorem ex_k3 : keys k3 fA = [[49, 57, 57, 56]] := by decide +kernel
theorem ex_s1 : sumS std.keys fA fB = 80 := by decide +kernel
theorem ex_s2 : sumS std.keys fA fC = 100 := by decide +kernel
theorem ex_find : find std rX rA = [3] := by decide +kernel
theorem ex_pairs : pairs std rX = [(1, 3)] := by decide +kernel
theorem ex_right : ruleE std = 0 := by decide +kernel
theorem ex_gm : Gm std := ruleE_good ex_right
theorem ex_tag : ∀ k ∈ std.keys, k.tag.size ≤ 9223372036854775807 := by decide +kernel
theorem ex_gf : ∀ x ∈ rX, Gf x.fields := by
  intro x hx
  simp only [rX, List.mem_cons, List.not_mem_nil, or_false] at hx
  rcases hx with rfl | rfl | rfl <;> (unfold Gf Gd; decide +kernel)
theorem ex_gA : Gf fA := ex_gf rA (by simp [rX])
theorem ex_gB : Gf fB := ex_gf rB (by simp [rX])
theorem ex_gC : Gf fC := ex_gf rC (by simp [rX])
theorem ex_ids : (ids rX).Nodup := by decide +kernel
end Mt
end Go.Proofs.YtogpghpgnpoioaaGreatDoor
