/- The parser's tokens and place in memory; its looks ahead: what the calls return. -/
import Derived.Test.YtkahplbjbidemaaGreatDoorQwX
import Derived.Test.YtkahplbjbidemaaGreatDoorQpP
import Derived.StillTailTactics
import Derived.BigRegion
import Derived.Test.YtkahplbjbidemaaGreatDoorFwX
import Derived.BigQuiet
namespace Go.Proofs.YtkahplbjbidemaaGreatDoor
open Go.RowKit
set_option maxRecDepth 100000

namespace Qr
abbrev encT (t : Tok) : List Value := [.int .u8 t.k.toNat, .string ⟨t.t.toArray⟩, .bool t.g]
/-- Go's tables lie in blocks before g. -/
def GP (g : Nat) (w : World) : Prop := ∃ w0, G w0 ∧ w0.heap.size ≤ g ∧ Below w0.heap.size w0 w
theorem GP.g {g : Nat} {w : World} (h : GP g w) : G w := by
  obtain ⟨w0, h1, _, h3⟩ := h
  exact h1.below h3
theorem GP.fr {g : Nat} {w w' : World} (h : GP g w) (hg : g < w.heap.size) (hF : Fr g w w') : GP g w' := by
  obtain ⟨w0, h1, h2, h3⟩ := h
  exact ⟨w0, h1, h2, h3.trans (hF.below h2 hg)⟩
/-- The parser (block g) holds the tokens l and stands before the rest r of them. -/
structure PS (g : Nat) (l r : List Tok) (w : World) : Prop where
  suf : r <:+ l
  len : l.length ≤ 1000000
  ok : ∀ t ∈ l, Tx.valid t.t = true ∧ t.t.length ≤ 1000
  gp : GP g w
  blk : ∃ ta tc, w.heap[g]? = some (.cells #[.slice ta l.length tc, .int .i64 ((l.length - r.length : Nat) : Int)] 44 (0, 0)) ∧ Br.FA encT 3 w ta tc l ∧ (∀ ad, ta = some ad → ad.block < g)
theorem PS.lt {g : Nat} {l r : List Tok} {w : World} (h : PS g l r w) : g < w.heap.size := by
  obtain ⟨ta, tc, h1, _⟩ := h.blk
  exact (Array.getElem?_eq_some_iff.1 h1).1
theorem PS.below {g : Nat} {l r : List Tok} {w w' : World} (h : PS g l r w) (hb : Below w.heap.size w w') : PS g l r w' := by
  have hgp := h.gp.fr h.lt (.of_below hb)
  obtain ⟨ta, tc, h1, h2, h3⟩ := h.blk
  exact ⟨h.suf, h.len, h.ok, hgp, ta, tc, Tx.blk_later h1 hb, h2.below hb, h3⟩
theorem Fr.fa' {α : Type} {enc : α → List Value} {size : Nat} {g : Nat} {w w' : World} {a : Option Addr} {c : Nat} {xs : List α} (h : Fr g w w') (hf : Br.FA enc size w a c xs) (hb : ∀ ad, a = some ad → ad.block ≠ g) : Br.FA enc size w' a c xs := by
  obtain ⟨b, o, h1, h2⟩ := hf.at_
  by_cases hne : xs = []
  · subst hne
    exact ⟨hf.cap, hf.max, b, o, fun h9 => absurd rfl h9, fun j i x u hx => by simp at hx⟩
  · have h3 := hb _ (h1 hne).1
    exact ⟨hf.cap, hf.max, b, o, fun hn => ⟨(h1 hn).1, Nat.lt_of_lt_of_le (h1 hn).2 h.size⟩, fun j i x u hx hu => h.cell h3 (h2 j i x u hx hu)⟩
theorem blk_set1 {w : World} {g : Nat} {v0 v1 : Value} {t : TypeId} (h : w.heap[g]? = some (.cells #[v0, v1] t (0, 0))) (u : Value) : (w.setCell ⟨g, 1, none⟩ u).heap[g]? = some (.cells #[v0, u] t (0, 0)) := by
  simp only [World.setCell, Array.getElem?_modify]
  rw [h]
  simp
/-- The parser goes on. -/
theorem PS.adv {g : Nat} {l r r' : List Tok} {w : World} (h : PS g l r w) (hr : r' <:+ r) {m : Int} (hm : m = ((l.length - r'.length : Nat) : Int)) : PS g l r' (w.setCell ⟨g, 1, none⟩ (.int .i64 m)) := by
  have hF : Fr g w (w.setCell ⟨g, 1, none⟩ (.int .i64 m)) := (Fr.refl g w).set rfl _
  have hgp := h.gp.fr h.lt hF
  obtain ⟨ta, tc, h1, h2, h3⟩ := h.blk
  exact ⟨hr.trans h.suf, h.len, h.ok, hgp, ta, tc, by rw [hm]; exact blk_set1 h1 _, hF.fa' h2 (fun ad e => by have := h3 ad e; omega), h3⟩
/-- The parser's own cells. -/
theorem PS.cells {g : Nat} {l r : List Tok} {w : World} (h : PS g l r w) : ∃ ta tc, w.cell? ⟨g, 0, none⟩ = some (.slice ta l.length tc) ∧ w.cell? ⟨g, 1, none⟩ = some (.int .i64 ((l.length - r.length : Nat) : Int)) ∧ ∀ i, w.frozen? ⟨g, i, none⟩ = false := by
  obtain ⟨ta, tc, h1, _, _⟩ := h.blk
  obtain ⟨c, f, _⟩ := Tx.blk h1
  exact ⟨ta, tc, c 0, c 1, f⟩
/-- What reading gives: a search and the rest; or a panic. -/
abbrev wrongP : Value := .iface 47 (.agg #[])
theorem suf_at {l r : List Tok} (h : r <:+ l) (n : Nat) : l[l.length - r.length + n]? = r[n]? := by
  obtain ⟨p, rfl⟩ := h
  rw [List.length_append, Nat.add_sub_cancel, List.getElem?_append_right (by omega)]
  congr 1
  omega
theorem lk_drop {r : List Tok} {n : Nat} : lk (r.drop n) = (r[n]?).getD ⟨0, [], false⟩ := by
  unfold lk
  rw [List.headD_eq_head?_getD, List.head?_drop]
end Qr

theorem Tx.drawn {B : Nat} {a w : World} (h : Below B a w) (n : Nat) : Below B a (w.drewN n) := ⟨h.os, h.tape, h.output, h.size, h.block⟩
theorem Tx.put3 {B g : Nat} {w wr : World} (h : Below B w wr) (hg : B ≤ g) (v0 v1 v2 : Value) : Below B w (((wr.setCell ⟨g, 0, none⟩ v0).setCell ⟨g, 1, none⟩ v1).setCell ⟨g, 2, none⟩ v2) :=
  ((h.setCell hg _).setCell hg _).setCell hg _
set_option maxHeartbeats 1600000 in
theorem look_c (g n : Nat) (m : Int) (l r : List Qr.Tok) (w : World) (hm : m = (n : Int)) (hn : n ≤ 1) (hP : Qr.PS g l r w) :
    Calls Tryz.prog 76 #[.pointer (some ⟨g, 0, none⟩), .int .i64 m] w fun e w' => e = .returned (.agg #[.int .u8 (Qr.lk (r.drop n)).k.toNat, .string ⟨(Qr.lk (r.drop n)).t.toArray⟩, .bool (Qr.lk (r.drop n)).g]) ∧ Below w.heap.size w w' := by
  obtain ⟨ta, tc, hblk, hFA, hne⟩ := hP.blk
  have hsl := hP.suf.length_le
  have hll := hP.len
  have hcap := hFA.cap
  have hmx : maxLen = 9223372036854775807 := rfl
  have hmax := hFA.max
  obtain ⟨A, hA⟩ : ∃ A, l.length - r.length = A := ⟨_, rfl⟩
  have hAt := Qr.suf_at hP.suf n
  rw [hA] at hblk hAt
  subst hm
  have hw1 := IntWalk.i64_in ((A : Int) + (n : Int)) ⟨by omega, by omega⟩
  obtain ⟨W, hW⟩ : ∃ W, w.alloc (.cells #[.int .u8 0, .string ⟨#[]⟩, .bool false] 77) = W := ⟨_, rfl⟩
  have hB : Below w.heap.size w W := by rw [← hW]; exact Tx.newb _ _
  obtain ⟨bc, bf, bl⟩ := Tx.blk (Tx.blk_later hblk hB)
  obtain ⟨rc, rf, rl⟩ := Tx.blk (show W.heap[w.heap.size]? = some (.cells #[.int .u8 0, .string ⟨#[]⟩, .bool false] 77 (0, 0)) by rw [← hW]; exact heap_alloc_new _ _)
  have f0 : W.cell? ⟨g, 0, none⟩ = some (.slice ta l.length tc) := bc 0
  have f1 : W.cell? ⟨g, 1, none⟩ = some (.int .i64 (A : Int)) := bc 1
  have c0 : W.cell? ⟨w.heap.size, 0, none⟩ = some (.int .u8 0) := rc 0
  have c1 : W.cell? ⟨w.heap.size, 1, none⟩ = some (.string ⟨#[]⟩) := rc 1
  have c2 : W.cell? ⟨w.heap.size, 2, none⟩ = some (.bool false) := rc 2
  clear bc bf rc
  rw [Qr.lk_drop]
  cases hr : r[n]? with
  | none =>
    rw [hr] at hAt
    have hge : l.length ≤ A + n := List.getElem?_eq_none_iff.1 hAt
    have g1 : ¬ ((A : Int) + n < (l.length : Int)) := by omega
    clear hP hblk hFA hne hAt hr hA
    rw [Option.getD_none]
    go_enter Tryz.func76, Tryz.ntmps76
    go_wp2
    go_quiet (fail)
    go_wp2
    refine bodyPost_ret (v := .agg #[.int .u8 0, .string ⟨#[]⟩, .bool false]) (by simp [results, Tryz.results76, go_sem, c0, c1, c2]) rfl ⟨rfl, Tx.put3 (Tx.drawn hB _) (Nat.le_refl _) _ _ _⟩
  | some t =>
    rw [hr] at hAt
    have hlt : A + n < l.length := (List.getElem?_eq_some_iff.1 hAt).1
    have g1 : (A : Int) + n < (l.length : Int) := by omega
    obtain ⟨b, o, rfl, hbl, hc⟩ := (hFA.below hB).get hAt
    have d0 := hc 0 _ rfl
    have d1 := hc 1 _ rfl
    have d2 := hc 2 _ rfl
    obtain ⟨N, hN⟩ : ∃ N, A + n = N := ⟨_, rfl⟩
    have hNi : (A : Int) + (n : Int) = (N : Int) := by omega
    rw [hN] at d0 d1 d2
    rw [hNi] at hw1 g1
    rw [Nat.add_zero] at d0
    clear hP hblk hFA hne hAt hr hA hc
    rw [Option.getD_some]
    have HN := Lib.hid hNi
    go_enter Tryz.func76, Tryz.ntmps76
    go_wp2
    go_quiet (fail)
    go_wp2
    have hb2 := Tx.drawn hB nq
    replace f0 : (W.drewN nq).cell? ⟨g, 0, none⟩ = some (.slice (some ⟨b, o, none⟩) l.length tc) := f0
    replace f1 : (W.drewN nq).cell? ⟨g, 1, none⟩ = some (.int .i64 (A : Int)) := f1
    replace c0 : (W.drewN nq).cell? ⟨w.heap.size, 0, none⟩ = some (.int .u8 0) := c0
    replace c1 : (W.drewN nq).cell? ⟨w.heap.size, 1, none⟩ = some (.string ⟨#[]⟩) := c1
    replace c2 : (W.drewN nq).cell? ⟨w.heap.size, 2, none⟩ = some (.bool false) := c2
    replace d0 : (W.drewN nq).cell? ⟨b, o + N * 3, none⟩ = some (.int .u8 t.k.toNat) := d0
    replace d1 : (W.drewN nq).cell? ⟨b, o + N * 3 + 1, none⟩ = some (.string ⟨t.t.toArray⟩) := d1
    replace d2 : (W.drewN nq).cell? ⟨b, o + N * 3 + 2, none⟩ = some (.bool t.g) := d2
    replace rf : ∀ i, (W.drewN nq).frozen? ⟨w.heap.size, i, none⟩ = false := rf
    generalize W.drewN nq = W2 at *
    clear hB bl rl hbl hW
    go_still_tail 12, (by kernel_rfl)
    change wpList _ _ _ _ _ W2.drew
    replace c0 : W2.drew.cell? ⟨w.heap.size, 0, none⟩ = some (.int .u8 0) := c0
    replace c1 : W2.drew.cell? ⟨w.heap.size, 1, none⟩ = some (.string ⟨#[]⟩) := c1
    replace c2 : W2.drew.cell? ⟨w.heap.size, 2, none⟩ = some (.bool false) := c2
    replace rf : ∀ i, W2.drew.frozen? ⟨w.heap.size, i, none⟩ = false := rf
    replace hb2 := hb2.drew
    generalize W2.drew = W3 at *
    go_wp2
    refine bodyPost_ret (v := .agg #[.int .u8 t.k.toNat, .string ⟨t.t.toArray⟩, .bool t.g]) (by simp [results, Tryz.results76, go_sem, c0, c1, c2]) rfl ⟨rfl, Tx.put3 hb2 (Nat.le_refl _) _ _ _⟩
end Go.Proofs.YtkahplbjbidemaaGreatDoor

/- The parser's questions about the next token: what the calls return. -/
namespace Go.Proofs.YtkahplbjbidemaaGreatDoor
open Go.RowKit
set_option maxRecDepth 100000

theorem Qr.run_tok0 (k : Int) (t : ByteArray) (b : Bool) (w : World) : (Instr.field 77 (.agg #[.int .u8 k, .string t, .bool b]) 0).run Tryz.prog w = .ok (.int .u8 k) w := by kernel_rfl
theorem Qr.run_tok1 (k : Int) (t : ByteArray) (b : Bool) (w : World) : (Instr.field 77 (.agg #[.int .u8 k, .string t, .bool b]) 1).run Tryz.prog w = .ok (.string t) w := by kernel_rfl
theorem Qr.run_tok2 (k : Int) (t : ByteArray) (b : Bool) (w : World) : (Instr.field 77 (.agg #[.int .u8 k, .string t, .bool b]) 2).run Tryz.prog w = .ok (.bool b) w := by kernel_rfl
attribute [local go_sem] Qr.run_tok0 Qr.run_tok1 Qr.run_tok2
theorem Qr.kn {c : UInt8} {n : Nat} (hn : n < 256) : (¬ c = UInt8.ofNat n) → ¬ ((c.toNat : Int) = (n : Int)) := by
  intro h e
  exact h (by rw [← UInt8.toNat_inj, UInt8.toNat_ofNat']; omega)
theorem Qr.bs (l m : List UInt8) : ((⟨l.toArray⟩ : ByteArray).toList == (⟨m.toArray⟩ : ByteArray).toList) = (l == m) := by rw [Lib.toList_data, Lib.toList_data]

set_option maxHeartbeats 1600000 in
theorem is_c (g : Nat) (l r : List Qr.Tok) (s : List UInt8) (w : World) (hP : Qr.PS g l r w) :
    Calls Tryz.prog 51 #[.pointer (some ⟨g, 0, none⟩), .string ⟨s.toArray⟩] w fun e w' => e = .returned (.bool (Qr.isOp s r)) ∧ Below w.heap.size w w' := by
  obtain ⟨t, ht⟩ : ∃ t, Qr.lk r = t := ⟨_, rfl⟩
  have HS : Hid (Qr.isOp s r = ((t.k == 114) && (t.t == s))) := Lib.hid (by unfold Qr.isOp; rw [ht])
  have HT := Lib.hid ht; clear ht
  by_cases hk : t.k = 114
  · have hkn : ((t.k.toNat : Nat) : Int) = 114 := by rw [hk]; rfl
    have HK := Lib.hid hkn; clear hkn
    go_enter Tryz.func51, Tryz.ntmps51
    go_wp2_with (first
      | (go_at_call 76; refine (look_c g 0 0 l r w rfl (by omega) hP).mono ?_; rintro e w1 ⟨rfl, hb1⟩; rw [List.drop_zero, HT.out, HK.out])
      | (go_at_call 76; refine (look_c g 0 0 l r _ rfl (by omega) (hP.below hb1)).mono ?_; rintro e w2 ⟨rfl, hb2⟩; rw [List.drop_zero, HT.out, HK.out]))
    all_goals
      go_ret
      exact ⟨Tx.retb (by rw [HS.out, hk]; simp [*]), hb1.trans (hb2.mono hb1.size)⟩
  · have hkn : ((t.k.toNat : Int) == 114) = false := beq_eq_false_iff_ne.2 (Qr.kn (n := 114) (by decide) hk)
    have hk0 : (t.k == 114) = false := beq_eq_false_iff_ne.2 hk
    have HK0 := Lib.hid hk0; clear hk0 hk
    go_enter Tryz.func51, Tryz.ntmps51
    go_wp2_with (go_at_call 76; refine (look_c g 0 0 l r w rfl (by omega) hP).mono ?_; rintro e w1 ⟨rfl, hb1⟩; rw [List.drop_zero, HT.out])
    go_ret
    exact ⟨Tx.retb (by rw [HS.out, HK0.out]; rfl), hb1⟩

theorem Qr.begins_k {r : List Qr.Tok} {t : Qr.Tok} (h : Qr.lk r = t) : Qr.begins r = (t.k == 40 || t.k == 113 || (t.k == 114 && !(t.t == Qr.orB) && !(t.t == Qr.andB) && !(t.t == Qr.notB))) := by
  unfold Qr.begins Qr.word0 Qr.anyOp
  rw [h]
  cases t.k == 40 <;> cases t.k == 113 <;> cases t.k == 114 <;> cases t.t == Qr.orB <;> cases t.t == Qr.andB <;> cases t.t == Qr.notB <;> rfl

set_option maxHeartbeats 3200000 in
theorem begins_c (g : Nat) (l r : List Qr.Tok) (w : World) (hP : Qr.PS g l r w) :
    Calls Tryz.prog 75 #[.pointer (some ⟨g, 0, none⟩)] w fun e w' => e = .returned (.bool (Qr.begins r)) ∧ Below w.heap.size w w' := by
  obtain ⟨t, ht⟩ : ∃ t, Qr.lk r = t := ⟨_, rfl⟩
  have HS := Lib.hid (Qr.begins_k ht)
  have HT := Lib.hid ht; clear ht
  by_cases k1 : t.k = 40
  · have hkn : ((t.k.toNat : Nat) : Int) = 40 := by rw [k1]; rfl
    have HK := Lib.hid hkn; clear hkn
    rw [k1] at HS
    go_enter Tryz.func75, Tryz.ntmps75
    go_wp2_with (go_at_call 76; refine (look_c g 0 0 l r w rfl (by omega) hP).mono ?_; rintro e w1 ⟨rfl, hb1⟩; rw [List.drop_zero, HT.out, HK.out])
    go_ret
    exact ⟨Tx.retb (by rw [HS.out]; rfl), hb1.trans ((Tx.newb _ _).mono hb1.size)⟩
  · have n1 : ((t.k.toNat : Int) == 40) = false := beq_eq_false_iff_ne.2 (Qr.kn (n := 40) (by decide) k1)
    have k1' : (t.k == 40) = false := beq_eq_false_iff_ne.2 k1
    rw [k1'] at HS
    clear k1'
    by_cases k2 : t.k = 113
    · have hkn : ((t.k.toNat : Nat) : Int) = 113 := by rw [k2]; rfl
      have HK := Lib.hid hkn; clear hkn n1 k1
      rw [k2] at HS
      go_enter Tryz.func75, Tryz.ntmps75
      go_wp2_with (go_at_call 76; refine (look_c g 0 0 l r w rfl (by omega) hP).mono ?_; rintro e w1 ⟨rfl, hb1⟩; rw [List.drop_zero, HT.out, HK.out])
      go_ret
      exact ⟨Tx.retb (by rw [HS.out]; rfl), hb1.trans ((Tx.newb _ _).mono hb1.size)⟩
    · have n2 : ((t.k.toNat : Int) == 113) = false := beq_eq_false_iff_ne.2 (Qr.kn (n := 113) (by decide) k2)
      have k2' : (t.k == 113) = false := beq_eq_false_iff_ne.2 k2
      rw [k2'] at HS
      clear k2'
      by_cases k3 : t.k = 114
      · have hkn : ((t.k.toNat : Nat) : Int) = 114 := by rw [k3]; rfl
        have HK := Lib.hid hkn; clear hkn n1 k1 n2 k2
        rw [k3] at HS
        go_enter Tryz.func75, Tryz.ntmps75
        go_wp2_with (go_at_call 76; refine (look_c g 0 0 l r w rfl (by omega) hP).mono ?_; rintro e w1 ⟨rfl, hb1⟩; rw [List.drop_zero, HT.out, HK.out])
        all_goals
          go_ret
          exact ⟨Tx.retb (by rw [HS.out]; simp [*, Qr.orB, Qr.andB, Qr.notB]), hb1.trans ((Tx.newb _ _).mono hb1.size)⟩
      · have n3 : ((t.k.toNat : Int) == 114) = false := beq_eq_false_iff_ne.2 (Qr.kn (n := 114) (by decide) k3)
        have k3' : (t.k == 114) = false := beq_eq_false_iff_ne.2 k3
        rw [k3'] at HS
        clear k3'
        go_enter Tryz.func75, Tryz.ntmps75
        go_wp2_with (go_at_call 76; refine (look_c g 0 0 l r w rfl (by omega) hP).mono ?_; rintro e w1 ⟨rfl, hb1⟩; rw [List.drop_zero, HT.out])
        go_ret
        exact ⟨Tx.retb (by rw [HS.out]; rfl), hb1.trans ((Tx.newb _ _).mono hb1.size)⟩
end Go.Proofs.YtkahplbjbidemaaGreatDoor

/- Searches put together: what the program's joined returns. -/
namespace Go.Proofs.YtkahplbjbidemaaGreatDoor
open Go.RowKit
set_option maxRecDepth 100000

namespace Qr
/-- The cells of a search, spelt. -/
structure QT where
  op : Int
  fl : Int
  sa : Option Addr
  sn : Nat
  sc : Nat
  a : Int
  b : Int
  ka : Option Addr
  kn : Nat
  kc : Nat
abbrev encQ (t : QT) : List Value := [.int .i64 t.op, .int .i64 t.fl, .slice t.sa t.sn t.sc, .int .i64 t.a, .int .i64 t.b, .slice t.ka t.kn t.kc]
theorem encQ_len (t : QT) : (encQ t).length = 6 := rfl
theorem encQ_one (t : QT) : ∀ u ∈ encQ t, u.oneCell' = true := by simp [encQ, Value.oneCell']
theorem encQ_ones (T : List QT) : ∀ u ∈ T.flatMap encQ, u.oneCell' = true := Br.flat_one encQ_one T
theorem QC.qt {B : Nat} {w : World} {q : Qy} {cs : List Value} (h : QC B w q cs) : ∃ t, cs = encQ t := by
  cases h
  exact ⟨⟨_, _, _, _, _, _, _, _, _, _⟩, rfl⟩
/-- These cells are these searches'. -/
def QL (B : Nat) (w : World) (ks : List Qy) (T : List QT) : Prop := T.length = ks.length ∧ ∀ (j : Nat) k t, ks[j]? = some k → T[j]? = some t → QC B w k (encQ t)
theorem QL.nil (B : Nat) (w : World) : QL B w [] [] := ⟨rfl, fun j k t h => by simp at h⟩
theorem QL.one {B : Nat} {w : World} {k : Qy} {t : QT} (h : QC B w k (encQ t)) : QL B w [k] [t] := by
  refine ⟨rfl, fun j k2 t2 h1 h2 => ?_⟩
  match j, h1, h2 with
  | 0, h1, h2 => injection h1 with h1; injection h2 with h2; rw [← h1, ← h2]; exact h
  | j + 1, h1, _ => simp at h1
theorem QL.app {B : Nat} {w : World} {ks ks2 : List Qy} {T T2 : List QT} (h : QL B w ks T) (h2 : QL B w ks2 T2) : QL B w (ks ++ ks2) (T ++ T2) := by
  refine ⟨by rw [List.length_append, List.length_append, h.1, h2.1], fun j k t hk ht => ?_⟩
  by_cases hj : j < ks.length
  · rw [List.getElem?_append_left hj] at hk
    rw [List.getElem?_append_left (by rw [h.1]; exact hj)] at ht
    exact h.2 j k t hk ht
  · rw [List.getElem?_append_right (by omega)] at hk
    rw [List.getElem?_append_right (by rw [h.1]; omega), h.1] at ht
    exact h2.2 _ k t hk ht
theorem QL.later {B : Nat} {w w' : World} {ks : List Qy} {T : List QT} (h : QL B w ks T) (hb : Below w.heap.size w w') : QL B w' ks T := ⟨h.1, fun j k t h1 h2 => (h.2 j k t h1 h2).later hb⟩
theorem QL.fr {g B : Nat} {w w' : World} {ks : List Qy} {T : List QT} (h : QL B w ks T) (hF : Fr g w w') (hB : g < B) : QL B w' ks T := ⟨h.1, fun j k t h1 h2 => (h.2 j k t h1 h2).fr hF hB⟩
theorem fa_map {w : World} {a : Option Addr} {c : Nat} {T : List QT} : Br.FA encQ 6 w a c T ↔ Br.FA id 6 w a c (T.map encQ) := by
  constructor
  · intro h
    obtain ⟨b, o, h1, h2⟩ := h.at_
    refine ⟨by rw [List.length_map]; exact h.cap, h.max, b, o, fun hn => h1 (by intro h0; rw [h0] at hn; exact hn rfl), fun j i x u hx hu => ?_⟩
    rw [List.getElem?_map, Option.map_eq_some_iff] at hx
    obtain ⟨t, ht, rfl⟩ := hx
    exact h2 j i t u ht hu
  · intro h
    obtain ⟨b, o, h1, h2⟩ := h.at_
    refine ⟨by have := h.cap; rw [List.length_map] at this; exact this, h.max, b, o, fun hn => h1 (by intro h0; exact hn (List.map_eq_nil_iff.1 h0)), fun j i x u hx hu => ?_⟩
    exact h2 j i (encQ x) u (by rw [List.getElem?_map, hx]; rfl) hu
theorem KA.ts {B : Nat} {w : World} {a : Option Addr} {c : Nat} {ks : List Qy} (h : KA B w a c ks) : ∃ T, QL B w ks T ∧ Br.FA encQ 6 w a c T ∧ (ks ≠ [] → ∀ ad, a = some ad → B ≤ ad.block) := by
  obtain ⟨css, h1, h2, h3, h4⟩ := h.ex
  obtain ⟨T, e, hT⟩ := Br.choose_list css (fun j (x : List Value × QT) => x.1 = encQ x.2) (fun j cs hcs => by
    have hj : j < ks.length := by rw [← h1]; exact (List.getElem?_eq_some_iff.1 hcs).1
    exact (h2 j _ cs (List.getElem?_eq_getElem hj) hcs).qt)
  have he : (T.map (·.2)).map encQ = css := by
    rw [← e, List.map_map]
    apply List.map_congr_left
    intro x hx
    obtain ⟨j, hj⟩ := List.getElem?_of_mem hx
    exact (hT j x hj).symm
  refine ⟨T.map (·.2), ⟨by rw [← h1, ← he]; simp only [List.length_map], fun j k t hk ht => ?_⟩, fa_map.2 (by rw [he]; exact h3), fun hn ad had => h4 (by intro h0; rw [h0] at h1; exact hn (List.eq_nil_of_length_eq_zero h1.symm)) ad had⟩
  exact h2 j k _ hk (by rw [← he, List.getElem?_map, ht]; rfl)
theorem KA.of_ts {B : Nat} {w : World} {a : Option Addr} {c : Nat} {ks : List Qy} {T : List QT} (h : QL B w ks T) (hf : Br.FA encQ 6 w a c T) (hb : ks ≠ [] → ∀ ad, a = some ad → B ≤ ad.block) : KA B w a c ks := by
  refine ⟨T.map encQ, by rw [List.length_map]; exact h.1, fun j k cs hk hcs => ?_, fa_map.1 hf, fun hn => hb (by intro h0; subst h0; exact hn (by have := h.1; rw [List.eq_nil_of_length_eq_zero this]; rfl))⟩
  rw [List.getElem?_map, Option.map_eq_some_iff] at hcs
  obtain ⟨t, ht, rfl⟩ := hcs
  exact h.2 j k t hk ht
theorem QC.ka {B : Nat} {w : World} {q : Qy} {o f a b : Int} {sa ka : Option Addr} {sn sc kn kc : Nat} (h : QC B w q [.int .i64 o, .int .i64 f, .slice sa sn sc, .int .i64 a, .int .i64 b, .slice ka kn kc]) : KA B w ka kc q.ks := by
  obtain ⟨sa2, sc2, ka2, kc2, e, _, _, hk⟩ := h.kids
  simp only [List.cons.injEq, Value.slice.injEq, and_true] at e
  obtain ⟨_, _, _, _, _, rfl, _, rfl⟩ := e
  exact hk
/-- What a reader of the parser's does: it gives a search and goes on, or it panics. -/
def Res (g : Nat) (l : List Tok) (x : PR) (w : World) (e : Ending) (w' : World) : Prop :=
  match x with
  | none => e = .panicked [{ v := wrongP, recovered := false }] ∧ Fr g w w'
  | some (q, r') => ∃ t, e = .returned (.agg (encQ t).toArray) ∧ QC w.heap.size w' q (encQ t) ∧ PS g l r' w' ∧ Fr g w w'
def flat (op : Int) (k : Qy) : List Qy := if k.op = op then k.ks else [k]
theorem joined_one (op : Int) (x : Qy) : joined op [x] = x := rfl
theorem joined_many (op : Int) (l : List Qy) (h : l.length ≠ 1) : joined op l = .mk op 0 [] 0 0 (l.flatMap (flat op)) := by
  unfold joined
  split
  · simp at h
  · rfl
theorem flat_take {op : Int} {l : List Qy} {k : Nat} {x : Qy} (h : l[k]? = some x) : (l.take (k + 1)).flatMap (flat op) = (l.take k).flatMap (flat op) ++ flat op x := by
  rw [take_snoc h, List.flatMap_append]; simp
theorem flat_len (op : Int) : ∀ l : List Qy, (l.flatMap (flat op)).length ≤ nodesL l
  | [] => by simp [nodesL]
  | .mk o f ws a b ks :: r => by
    have h1 := flat_len op r
    have h2 := ks_nodes ks
    have h3 : (flat op (.mk o f ws a b ks)).length ≤ 1 + nodesL ks := by
      unfold flat
      split
      · exact Nat.le_trans h2 (by omega)
      · simp
    simp only [List.flatMap_cons, List.length_append, nodesL, nodes]
    omega
theorem nodesL_take (l : List Qy) (k : Nat) : nodesL (l.take k) ≤ nodesL l := by
  have := nodesL_app (l.take k) (l.drop k)
  rw [List.take_append_drop] at this
  omega
end Qr
theorem Tx.put6 {B g : Nat} {w wr : World} (h : Below B w wr) (hg : B ≤ g) (v0 v1 v2 v3 v4 v5 : Value) : Below B w ((((((wr.setCell ⟨g, 0, none⟩ v0).setCell ⟨g, 1, none⟩ v1).setCell ⟨g, 2, none⟩ v2).setCell ⟨g, 3, none⟩ v3).setCell ⟨g, 4, none⟩ v4).setCell ⟨g, 5, none⟩ v5) :=
  (((((h.setCell hg _).setCell hg _).setCell hg _).setCell hg _).setCell hg _).setCell hg _
theorem Tx.blk_set {w : World} {g i : Nat} {cs : Array Value} {t : TypeId} (h : w.heap[g]? = some (.cells cs t (0, 0))) (u : Value) : (w.setCell ⟨g, i, none⟩ u).heap[g]? = some (.cells (cs.setIfInBounds i u) t (0, 0)) := by
  have hg := (Array.getElem?_eq_some_iff.1 h).1
  simp only [World.setCell, Array.getElem?_modify]
  rw [h]
  simp
theorem Tx.blk_far {w : World} {g : Nat} {o : Obj} {a : Addr} (h : w.heap[g]? = some o) (hg : g ≠ a.block) (u : Value) : (w.setCell a u).heap[g]? = some o := (Below.heap_setCell _ _ _ _ hg).trans h

set_option maxHeartbeats 3200000 in
theorem joined_1 (B : Nat) (op : Int) (x : Qr.Qy) (a : Option Addr) (c : Nat) (w : World) (hK : Qr.KA B w a c [x]) :
    Calls Tryz.prog 52 #[.int .i64 op, .slice a 1 c] w fun e w' => ∃ t, e = .returned (.agg (Qr.encQ t).toArray) ∧ Qr.QC B w' x (Qr.encQ t) ∧ Below w.heap.size w w' := by
  obtain ⟨W, hW⟩ : ∃ W, w.alloc (.cells #[.int .i64 0, .int .i64 0, .slice none 0 0, .int .i64 0, .int .i64 0, .slice none 0 0] 25) = W := ⟨_, rfl⟩
  have hB : Below w.heap.size w W := by rw [← hW]; exact Tx.newb _ _
  obtain ⟨rc, rf, rl⟩ := Tx.blk (show W.heap[w.heap.size]? = some (.cells #[.int .i64 0, .int .i64 0, .slice none 0 0, .int .i64 0, .int .i64 0, .slice none 0 0] 25 (0, 0)) by rw [← hW]; exact heap_alloc_new _ _)
  have c0 : W.cell? ⟨w.heap.size, 0, none⟩ = some (.int .i64 0) := rc 0
  have c1 : W.cell? ⟨w.heap.size, 1, none⟩ = some (.int .i64 0) := rc 1
  have c2 : W.cell? ⟨w.heap.size, 2, none⟩ = some (.slice none 0 0) := rc 2
  have c3 : W.cell? ⟨w.heap.size, 3, none⟩ = some (.int .i64 0) := rc 3
  have c4 : W.cell? ⟨w.heap.size, 4, none⟩ = some (.int .i64 0) := rc 4
  have c5 : W.cell? ⟨w.heap.size, 5, none⟩ = some (.slice none 0 0) := rc 5
  clear rc
  obtain ⟨b, o, sa, sc, ka, kc, rfl, hbl, d0, d1, d2, d3, d4, d5, hq⟩ := hK.get (k := 0) rfl
  rw [Nat.zero_mul, Nat.add_zero] at d0 d1 d2 d3 d4 d5
  replace d0 := cell_later hB d0
  replace d1 := cell_later hB d1
  replace d2 := cell_later hB d2
  replace d3 := cell_later hB d3
  replace d4 := cell_later hB d4
  replace d5 := cell_later hB d5
  have HQ := Lib.hid hq; clear hq hK hbl
  have hP := Tx.put6 hB (Nat.le_refl _) (.int .i64 x.op) (.int .i64 x.fld) (.slice sa x.ws.length sc) (.int .i64 x.a) (.int .i64 x.b) (.slice ka x.ks.length kc)
  have HP := Lib.hid hP; clear hP
  go_enter Tryz.func52, Tryz.ntmps52
  go_wp2
  refine bodyPost_ret (v := .agg #[.int .i64 x.op, .int .i64 x.fld, .slice sa x.ws.length sc, .int .i64 x.a, .int .i64 x.b, .slice ka x.ks.length kc]) (by simp [results, Tryz.results52, go_sem, c0, c1, c2, c3, c4, c5]) rfl ⟨⟨x.op, x.fld, sa, x.ws.length, sc, x.a, x.b, ka, x.ks.length, kc⟩, rfl, HQ.out.later HP.out, HP.out⟩

set_option maxHeartbeats 6400000 in
theorem joined_m (B : Nat) (op : Int) (l : List Qr.Qy) (a : Option Addr) (c : Nat) (w : World) (hK : Qr.KA B w a c l) (h1 : l.length ≠ 1) (hn : Qr.nodesL l ≤ 1000000) (hBw : B ≤ w.heap.size) :
    Calls Tryz.prog 52 #[.int .i64 op, .slice a l.length c] w fun e w' => ∃ t, e = .returned (.agg (Qr.encQ t).toArray) ∧ Qr.QC B w' (Qr.joined op l) (Qr.encQ t) ∧ Below w.heap.size w w' := by
  obtain ⟨i0, hi0, hz0, hz1, hz2⟩ := info_parts info_qy
  have HI := Lib.hid hi0; clear hi0
  have hll := Qr.ks_nodes l
  have HJ := Lib.hid (Qr.joined_many op l h1)
  have hl1 : ¬ ((l.length : Int) = 1) := by omega
  have hl2 : ((l.length : Int) == 1) = false := beq_eq_false_iff_ne.2 hl1
  clear h1
  have hmx : maxLen = 9223372036854775807 := rfl
  go_enter Tryz.func52, Tryz.ntmps52
  go_wp2
  go_loopw [18] (fun i wr => ∃ (k : Nat) (T : List Qr.QT) (v : Value), k ≤ l.length ∧ i = .int .i64 k ∧ Qr.QL B w ((l.take k).flatMap (Qr.flat op)) T ∧ wr.ownsRow (w.heap.size + 2) 25 6 v T.length (T.flatMap Qr.encQ) ∧ wr.heap[w.heap.size + 1]? = some (.cells #[.int .i64 op, .int .i64 0, .slice none 0 0, .int .i64 0, .int .i64 0, v] 25 (0, 0)) ∧ wr.heap[w.heap.size]? = some (.cells #[.int .i64 0, .int .i64 0, .slice none 0 0, .int .i64 0, .int .i64 0, .slice none 0 0] 25 (0, 0)) ∧ Below w.heap.size w wr) (fun i _ => l.length - (intOf i).toNat)
  case atStart => exact ⟨0, [], .slice none 0 0, Nat.zero_le _, rfl, by rw [List.take_zero]; exact Qr.QL.nil _ _, World.ownsRow_nil _ _ _ _, by have := heap_alloc_new (w.alloc (.cells #[.int .i64 0, .int .i64 0, .slice none 0 0, .int .i64 0, .int .i64 0, .slice none 0 0] 25)) (.cells #[.int .i64 op, .int .i64 0, .slice none 0 0, .int .i64 0, .int .i64 0, .slice none 0 0] 25); simpa using this, Tx.blk_later (heap_alloc_new w _) (Tx.newb _ _), (Tx.newb _ _).trans ((Tx.newb _ _).mono (by simp))⟩
  case round =>
    obtain ⟨k, T, v, hk, rfl, hT, hown, hQ, hR, hb⟩ := hrel
    have hTl : T.length ≤ 1000000 := by
      rw [hT.1]
      have h1 := Qr.flat_len op (l.take k)
      have h2 := Qr.nodesL_take l k
      omega
    have hsz := hb.size
    have hQl := (Array.getElem?_eq_some_iff.1 hQ).1
    have hfar : ∀ g, g < w.heap.size + 2 → some g ≠ v.ownBlock := fun g hg e => by have := (hown.lt g e.symm).1; omega
    have HF := Lib.hid hfar; clear hfar
    obtain ⟨va, vc, rfl, _, _, _⟩ := Br.own_any Qr.encQ_len hown rfl
    by_cases hlt : k < l.length
    · obtain ⟨x, hx⟩ : ∃ x, l[k]? = some x := ⟨_, List.getElem?_eq_getElem hlt⟩
      obtain ⟨b, o, sa2, sc2, ka2, kc2, rfl, hbl, d0, d1, d2, d3, d4, d5, hq⟩ := hK.get hx
      have hxn := Qr.nodes_kid (List.mem_of_getElem? hx)
      have hft := Qr.flat_take (op := op) hx
      obtain ⟨T2, hT2, hFA, hlow⟩ := hq.ka.ts
      have hT2l := hT2.1
      have hkn : x.ks.length ≤ 1000000 := by
        have h1 := Qr.ks_nodes x.ks
        cases x
        simp only [Qr.nodes, Qr.Qy.ks] at *
        omega
      replace d0 := cell_later hb d0
      replace d1 := cell_later hb d1
      replace d2 := cell_later hb d2
      replace d3 := cell_later hb d3
      replace d4 := cell_later hb d4
      replace d5 := cell_later hb d5
      have HQ := Lib.hid hq; clear hq
      have HFT := Lib.hid hft; clear hft hx hlow
      have HL2 := Lib.hid hT2l; clear hT2l
      have HT2 := Lib.hid hT2; clear hT2
      have HT := Lib.hid hT; clear hT
      by_cases hxo : x.op = op
      · have HO := Lib.hid hxo
        rw [hxo] at d0
        clear hxo
        have HFL : Hid (Qr.flat op x = x.ks) := Lib.hid (by unfold Qr.flat; rw [if_pos HO.out])
        have kq := Tx.blk_later hQ (Tx.newb wr (.cells #[.int .i64 op, .int .i64 x.fld, .slice sa2 x.ws.length sc2, .int .i64 x.a, .int .i64 x.b, .slice ka2 x.ks.length kc2] 25))
        have kr := Tx.blk_later hR (Tx.newb wr (.cells #[.int .i64 op, .int .i64 x.fld, .slice sa2 x.ws.length sc2, .int .i64 x.a, .int .i64 x.b, .slice ka2 x.ks.length kc2] 25))
        have q5 := (Tx.blk kq).1 5
        go_wp2_with (at_builtin; go_must (refine wpList_append_sl rfl _ _ 23 rfl (w.heap.size + 2) 25 i0 _ 6 80 Tryz.underlying23 HI.out hz0 hz1 hz2 rfl (by decide) _ T.length _ rfl (hown.alloc _) ka2 x.ks.length kc2 (T2.flatMap Qr.encQ) rfl (by rw [Br.flat_len Qr.encQ 6 Qr.encQ_len, HL2.out]) (fun h9 => by rw [← HL2.out]; exact hFA.none h9) ((hFA.below (hb.trans ((Tx.newb _ _).mono hb.size))).cells Qr.encQ_len (by omega)) (Qr.encQ_ones T2) (by unfold maxLen; omega) (by omega) (by simp; omega) ?_); intro v' w2 hown2 hg2 hnil2; have hown3 : w2.ownsRow (w.heap.size + 2) 25 6 v' (T ++ T2).length ((T ++ T2).flatMap Qr.encQ) := (by rw [List.length_append, List.flatMap_append, HL2.out]; exact hown2); clear hown2; obtain ⟨va3, vc3, rfl, _, _, _⟩ := Br.own_any Qr.encQ_len hown3 rfl; rw [List.length_append] at hown3; have kq2 := (hg2.block _ (Array.getElem?_eq_some_iff.1 kq).1 (HF.out _ (by omega))).trans kq; have kr2 := (hg2.block _ (Array.getElem?_eq_some_iff.1 kr).1 (HF.out _ (by omega))).trans kr; obtain ⟨qc2, qf2, ql2⟩ := Tx.blk kq2; have q52 := qc2 5)
        go_roundw
        case rel => exact ⟨k + 1, T ++ T2, _, hlt, by go_num, by rw [HFT.out, HFL.out]; exact HT.out.app HT2.out, by rw [List.length_append]; exact ownsRow_setCell_below hown3 (show w.heap.size + 1 < w.heap.size + 2 by omega) _, by have := Tx.blk_set (i := 5) kq2 (.slice va3 (T.length + T2.length) vc3); simpa using this, Tx.blk_far kr2 (show w.heap.size ≠ w.heap.size + 1 by omega) _, ((hb.trans ((Tx.newb _ _).mono hb.size)).grown hg2 (by simp; omega) (fun j hj => by have := (hown.lt j hj).1; omega)).setCell (show w.heap.size ≤ w.heap.size + 1 by omega) _⟩
        case measure => simp [intOf]; omega
      · have HFL : Hid (Qr.flat op x = [x]) := Lib.hid (by unfold Qr.flat; rw [if_neg hxo])
        have kq := Tx.blk_later hQ (Tx.newb wr (.cells #[.int .i64 x.op, .int .i64 x.fld, .slice sa2 x.ws.length sc2, .int .i64 x.a, .int .i64 x.b, .slice ka2 x.ks.length kc2] 25))
        have kr := Tx.blk_later hR (Tx.newb wr (.cells #[.int .i64 x.op, .int .i64 x.fld, .slice sa2 x.ws.length sc2, .int .i64 x.a, .int .i64 x.b, .slice ka2 x.ks.length kc2] 25))
        have q5 := (Tx.blk kq).1 5
        have kq1 := Tx.blk_later kq (Tx.newb _ (.cells #[.int .i64 x.op, .int .i64 x.fld, .slice sa2 x.ws.length sc2, .int .i64 x.a, .int .i64 x.b, .slice ka2 x.ks.length kc2] 25))
        have kr1 := Tx.blk_later kr (Tx.newb _ (.cells #[.int .i64 x.op, .int .i64 x.fld, .slice sa2 x.ws.length sc2, .int .i64 x.a, .int .i64 x.b, .slice ka2 x.ks.length kc2] 25))
        go_wp2_with (at_builtin; go_must (refine wpList_append_sl rfl _ _ 23 rfl (w.heap.size + 2) 25 i0 _ 6 80 Tryz.underlying23 HI.out hz0 hz1 hz2 rfl (by decide) _ T.length _ rfl ((hown.alloc _).alloc _) (some ⟨_, 0, none⟩) 1 1 [.int .i64 x.op, .int .i64 x.fld, .slice sa2 x.ws.length sc2, .int .i64 x.a, .int .i64 x.b, .slice ka2 x.ks.length kc2] rfl rfl (fun h9 => by cases h9) (fun ad had => by cases had; exact Br.cells_new_at _ _ (by first | rfl | simp) _ _) (by simp [Value.oneCell']) (by unfold maxLen; omega) (by omega) (by simp; omega) ?_); intro v' w2 hown2 hg2 hnil2; have hown3 : w2.ownsRow (w.heap.size + 2) 25 6 v' (T ++ [(⟨x.op, x.fld, sa2, x.ws.length, sc2, x.a, x.b, ka2, x.ks.length, kc2⟩ : Qr.QT)]).length ((T ++ [(⟨x.op, x.fld, sa2, x.ws.length, sc2, x.a, x.b, ka2, x.ks.length, kc2⟩ : Qr.QT)]).flatMap Qr.encQ) := (by rw [List.length_append, List.flatMap_append]; exact hown2); clear hown2; obtain ⟨va3, vc3, rfl, _, _, _⟩ := Br.own_any Qr.encQ_len hown3 rfl; rw [List.length_append] at hown3; have kq2 := (hg2.block _ (Array.getElem?_eq_some_iff.1 kq1).1 (HF.out _ (by omega))).trans kq1; have kr2 := (hg2.block _ (Array.getElem?_eq_some_iff.1 kr1).1 (HF.out _ (by omega))).trans kr1; obtain ⟨qc2, qf2, ql2⟩ := Tx.blk kq2; have q52 := qc2 5)
        go_roundw
        case rel => exact ⟨k + 1, T ++ [⟨x.op, x.fld, sa2, x.ws.length, sc2, x.a, x.b, ka2, x.ks.length, kc2⟩], _, hlt, by go_num, by rw [HFT.out, HFL.out]; exact HT.out.app (Qr.QL.one HQ.out), by rw [List.length_append]; exact ownsRow_setCell_below hown3 (show w.heap.size + 1 < w.heap.size + 2 by omega) _, by have := Tx.blk_set (i := 5) kq2 (.slice va3 (T.length + 1) vc3); simpa using this, Tx.blk_far kr2 (show w.heap.size ≠ w.heap.size + 1 by omega) _, (((hb.trans ((Tx.newb _ _).mono hb.size)).trans ((Tx.newb _ _).mono (by simp; omega))).grown hg2 (by simp; omega) (fun j hj => by have := (hown.lt j hj).1; omega)).setCell (show w.heap.size ≤ w.heap.size + 1 by omega) _⟩
        case measure => simp [intOf]; omega
    · have hkk : k = l.length := by omega
      subst hkk
      rw [List.take_length] at hT
      obtain ⟨qc, qf, ql⟩ := Tx.blk hQ
      obtain ⟨rc, rf, rl⟩ := Tx.blk hR
      have q0 := qc 0
      have q1 := qc 1
      have q2 := qc 2
      have q3 := qc 3
      have q4 := qc 4
      have q5 := qc 5
      have r0 := rc 0
      have r1 := rc 1
      have r2 := rc 2
      have r3 := rc 3
      have r4 := rc 4
      have r5 := rc 5
      clear qc qf ql rc
      have hTL : T.length = (l.flatMap (Qr.flat op)).length := hT.1
      obtain ⟨va9, vc9, e3, hFA3, hlow3⟩ := Br.FA.of_own Qr.encQ_len hown rfl
      injection e3 with e3a _ e3b
      subst e3a
      subst e3b
      have hP := fun v0 v1 v2 v3 v4 v5 => Tx.put6 hb (Nat.le_refl _) v0 v1 v2 v3 v4 v5
      have HP := Lib.hid hP; clear hP
      have HTL := Lib.hid hTL; clear hTL
      have hkeep : ∀ (w' : World), Below w.heap.size w w' → (∀ g, w.heap.size < g → g < wr.heap.size → w'.heap[g]? = wr.heap[g]?) → wr.heap.size ≤ w'.heap.size → Qr.QC B w' (Qr.joined op l) [.int .i64 op, .int .i64 0, .slice none 0 0, .int .i64 0, .int .i64 0, .slice va (l.flatMap (Qr.flat op)).length vc] := by
        intro w' hb' hsame hle
        rw [HJ.out]
        refine Qr.QC.of_kids (ws := []) (.inl ⟨rfl, _, _, rfl⟩) (fun h => absurd rfl h) (Qr.KA.of_ts (hT.later hb') ?_ (fun hn ad had => by have := hlow3 ad had; omega))
        obtain ⟨bb, oo, f1, f2⟩ := hFA3.at_
        refine ⟨hFA3.cap, hFA3.max, bb, oo, fun hn => ⟨(f1 hn).1, Nat.lt_of_lt_of_le (f1 hn).2 hle⟩, fun j i t u ht hu => ?_⟩
        have hne : T ≠ [] := by intro h0; rw [h0] at ht; simp at ht
        have hbb := hlow3 _ (f1 hne).1
        exact (World.cell?_of_block (w := wr) (hsame bb (by simp only at hbb; omega) (f1 hne).2)).trans (f2 j i t u ht hu)
      have HK := Lib.hid hkeep; clear hkeep
      clear hFA3 hlow3 hown hT
      go_wp2
      refine bodyPost_ret (v := .agg #[.int .i64 op, .int .i64 0, .slice none 0 0, .int .i64 0, .int .i64 0, .slice va T.length vc]) (by simp [results, Tryz.results52, go_sem, r0, r1, r2, r3, r4, r5]) rfl ⟨⟨op, 0, none, 0, 0, 0, 0, va, T.length, vc⟩, rfl, by rw [show Qr.encQ ⟨op, 0, none, 0, 0, 0, 0, va, T.length, vc⟩ = [.int .i64 op, .int .i64 0, .slice none 0 0, .int .i64 0, .int .i64 0, .slice va (l.flatMap (Qr.flat op)).length vc] by rw [← HTL.out]]; exact HK.out _ (HP.out _ _ _ _ _ _) (fun g hg1 hg2 => by simp only [World.setCell, Array.getElem?_modify]; repeat rw [if_neg (by omega)]) (by simp [World.setCell]), HP.out _ _ _ _ _ _⟩
end Go.Proofs.YtkahplbjbidemaaGreatDoor

/- A text is divided into tokens: what the program's call returns. -/
namespace Go.Proofs.YtkahplbjbidemaaGreatDoor
open Go.RowKit
set_option maxRecDepth 100000

namespace Qr
theorem drop_at {s : ByteArray} {k : Nat} (h : k < s.size) : s.data.toList.drop k = s[k]'h :: s.data.toList.drop (k + 1) := by
  rw [List.drop_eq_getElem_cons (by rw [← Lib.size_eq]; exact h)]
  rfl
theorem run_nil : run [] = [] := rfl
theorem run_cons (c : UInt8) (r : By) : run (c :: r) = if sgn c = true then [] else c :: run r := by
  unfold run
  rw [List.takeWhile_cons]
  cases sgn c <;> rfl
theorem sgn_index (c : UInt8) : (Lib.indexByte [32, 40, 41, 58, 42, 34] c < 0) ↔ sgn c = false := by
  unfold sgn
  have : ∀ n : Nat, n < 256 → ((Lib.indexByte [32, 40, 41, 58, 42, 34] (UInt8.ofNat n) < 0) ↔ (UInt8.ofNat n == 32 || UInt8.ofNat n == 40 || UInt8.ofNat n == 41 || UInt8.ofNat n == 58 || UInt8.ofNat n == 42 || UInt8.ofNat n == 34) = false) := by decide +kernel
  have h := this c.toNat c.toNat_lt
  rw [UInt8.ofNat_toNat] at h
  exact h
theorem tokF_blank (g : Bool) (r : By) : tokF g (32 :: r) = tokF false r := by rw [tokF_cons, if_pos rfl]
theorem tokF_sign {c : UInt8} (g : Bool) (r : By) (h : c = 40 ∨ c = 41 ∨ c = 58 ∨ c = 42) : tokF g (c :: r) = ⟨c, [], g⟩ :: tokF true r := by
  rw [tokF_cons, if_neg (by rcases h with rfl | rfl | rfl | rfl <;> decide), if_pos h]
theorem tokF_quote {x y : By} (g : Bool) (r : By) (h : Sp.cut 34 r = some (x, y)) : tokF g (34 :: r) = ⟨113, x, g⟩ :: tokF true y := by
  rw [tokF_cons, if_neg (by decide), if_neg (by decide), if_pos rfl, h]
theorem tokF_open (g : Bool) (r : By) (h : Sp.cut 34 r = none) : tokF g (34 :: r) = ⟨34, [], g⟩ :: tokF true r := by
  rw [tokF_cons, if_neg (by decide), if_neg (by decide), if_pos rfl, h]
theorem tokF_run {c : UInt8} (g : Bool) (r : By) (h : sgn c = false) : tokF g (c :: r) = ⟨114, c :: run r, g⟩ :: tokF true (r.drop (run r).length) := by
  have hh : c ≠ 32 ∧ c ≠ 40 ∧ c ≠ 41 ∧ c ≠ 58 ∧ c ≠ 42 ∧ c ≠ 34 := by
    unfold sgn at h
    simp only [Bool.or_eq_false_iff, beq_eq_false_iff_ne] at h
    exact ⟨h.1.1.1.1.1, h.1.1.1.1.2, h.1.1.1.2, h.1.1.2, h.1.2, h.2⟩
  rw [tokF_cons, if_neg hh.1, if_neg (by rintro (h | h | h | h) <;> simp_all), if_neg hh.2.2.2.2.2]
/-- How far a run goes. -/
theorem run_at {s : ByteArray} {k n : Nat} (h1 : 1 ≤ n) (hle : k + n ≤ s.size) (hin : ∀ j, 1 ≤ j → j < n → ∀ h : k + j < s.size, sgn (s[k + j]'h) = false) (hout : ∀ h : k + n < s.size, sgn (s[k + n]'h) = true) :
    run (s.data.toList.drop (k + 1)) = (s.data.toList.drop (k + 1)).take (n - 1) := by
  have : ∀ (d j : Nat), j + d = n → 1 ≤ j → run (s.data.toList.drop (k + j)) = (s.data.toList.drop (k + j)).take d := by
    intro d
    induction d with
    | zero =>
      intro j hj hj1
      by_cases hlt : k + j < s.size
      · rw [drop_at hlt, run_cons, if_pos (by have := hout (by omega); simpa [show k + j = k + n by omega] using this)]
        rfl
      · rw [List.drop_eq_nil_of_le (by rw [← Lib.size_eq]; omega)]
        rfl
    | succ d ih =>
      intro j hj hj1
      have hlt : k + j < s.size := by omega
      rw [drop_at hlt, run_cons, if_neg (by rw [hin j hj1 (by omega) hlt]; simp), List.take_succ_cons, show k + j + 1 = k + (j + 1) by omega, ih (j + 1) (by omega) (by omega)]
  have := this (n - 1) 1 (by omega) (Nat.le_refl _)
  exact this
end Qr
end Go.Proofs.YtkahplbjbidemaaGreatDoor

/- A text is divided into tokens: what the program's call returns. -/
namespace Go.Proofs.YtkahplbjbidemaaGreatDoor
open Go.RowKit
set_option maxRecDepth 100000

theorem info_tok : (Tryz.prog.info? 77).map (fun i => (i.zero, i.size, i.bytes)) = some (some (.agg #[.int .u8 0, .string ⟨#[]⟩, .bool false]), 3, 32) := by kernel_rfl
theorem Qr.idx_c {s : ByteArray} {k : Nat} : Lib.indexByte (s.extract (k + 1) s.size).data.toList 34 = Lib.indexByte (s.data.toList.drop (k + 1)) 34 := by
  rw [Lib.extract_data, List.take_of_length_le (by rw [List.length_drop, Lib.size_eq]; exact Nat.le_refl _)]
theorem Qr.ext_eq (s : ByteArray) (a b : Nat) : (⟨((s.data.toList.drop a).take (b - a)).toArray⟩ : ByteArray) = s.extract a b := by
  apply ByteArray.ext
  apply Array.toList_inj.1
  rw [Lib.extract_data]

theorem Tx.own_set {w : World} {B e size n : Nat} {v : Value} {xs : List Value} {a : Addr} (ho : w.ownsRow B e size v n xs) (hne : ∀ b, v.ownBlock = some b → b ≠ a.block) (u : Value) : (w.setCell a u).ownsRow B e size v n xs := by
  refine ⟨ho.1, ?_⟩
  rcases ho.2 with h1 | ⟨k, cap, cur, h1, h2, h3, h4⟩
  · exact .inl h1
  · exact .inr ⟨k, cap, cur, h1, h2, Tx.blk_far h3 (hne k (by rw [h1]; rfl)) u, h4⟩

set_option maxHeartbeats 3200000 in
theorem tokens_c (s : ByteArray) (w : World) (hs : s.size ≤ 100000) :
    Calls Tryz.prog 29 #[.string s] w fun e w' => ∃ v, e = .returned v ∧ w'.ownsRow w.heap.size 77 3 v (Qr.tokens s.data.toList).length ((Qr.tokens s.data.toList).flatMap Qr.encT) ∧ Below w.heap.size w w' := by
  obtain ⟨i0, hi0, hz0, hz1, hz2⟩ := info_parts info_tok
  have HI := Lib.hid hi0; clear hi0
  go_enter Tryz.func29, Tryz.ntmps29
  go_wp2
  go_loopw [3, 4, 5] (fun v gv i wr => ∃ (k : Nat) (out : List Qr.Tok) (gl : Bool), k ≤ s.size ∧ i = .int .i64 k ∧ gv = .bool gl ∧ Hid (out ++ Qr.tokF gl (s.data.toList.drop k) = Qr.tokens s.data.toList) ∧ out.length ≤ k ∧ wr.ownsRow w.heap.size 77 3 v out.length (out.flatMap Qr.encT) ∧ Below w.heap.size w wr) (fun _ _ i _ => s.size - (intOf i).toNat)
  case atStart => exact ⟨0, [], false, Nat.zero_le _, rfl, rfl, Lib.hid (by rw [List.drop_zero]; rfl), Nat.zero_le _, World.ownsRow_nil _ _ _ _, Below.refl _ _⟩
  case round =>
    obtain ⟨k, out, gl, hk, rfl, rfl, hT, hol, hown, hb⟩ := hrel
    have hbs := hb.size
    by_cases hlt : k < s.size
    · have hdr := Qr.drop_at hlt
      obtain ⟨c, hc⟩ : ∃ c, s[k]'hlt = c := ⟨_, rfl⟩
      rw [hc] at hdr
      have hcc : ∀ h, s[k]'h = c := fun _ => hc
      clear hc
      have HT := Lib.hid hT.out
      rw [hdr] at HT
      have HT2 := Lib.hid HT.out; clear HT hT hdr
      by_cases c32 : c = 32
      · subst c32
        have HN : Hid (out ++ Qr.tokF false (s.data.toList.drop (k + 1)) = Qr.tokens s.data.toList) := Lib.hid (by rw [← HT2.out, Qr.tokF_blank])
        go_wp2
        go_roundw
        case rel => exact ⟨k + 1, out, false, hlt, by go_num, rfl, HN, by omega, hown.alloc _, hb.trans ((Tx.newb _ _).mono hb.size)⟩
        case measure => simp [intOf]; omega
      · have n32 : ((c.toNat : Int) == 32) = false := beq_eq_false_iff_ne.2 (Qr.kn (n := 32) (by decide) c32)
        by_cases csg : c = 40 ∨ c = 41 ∨ c = 58 ∨ c = 42
        · have HN : Hid ((out ++ [⟨c, [], gl⟩]) ++ Qr.tokF true (s.data.toList.drop (k + 1)) = Qr.tokens s.data.toList) := Lib.hid (by rw [← HT2.out, Qr.tokF_sign gl _ csg, List.append_assoc]; rfl)
          clear c32 n32
          rcases csg with rfl | rfl | rfl | rfl
          all_goals
            go_wp2_with (at_builtin; go_must (refine wpList_append_sl rfl _ _ 41 rfl w.heap.size 77 i0 _ 3 32 Tryz.underlying41 HI.out hz0 hz1 hz2 rfl (by decide) _ out.length _ rfl ((hown.alloc _).alloc _) (some ⟨_, 0, none⟩) 1 1 [.int .u8 _, .string ⟨#[]⟩, .bool gl] rfl rfl (fun h9 => by cases h9) (fun ad had => by cases had; exact Br.cells_new_at _ _ (by first | rfl | simp) _ _) (by simp [Value.oneCell']) (by unfold maxLen; omega) (by omega) (by simp; omega) ?_); intro v' w7 hown7 hg7 hnil7)
            go_roundw
            case rel => exact ⟨k + 1, _, true, hlt, by go_num, rfl, HN, by rw [List.length_append]; simp; omega, by rw [List.length_append, List.flatMap_append]; exact hown7, ((hb.trans ((Tx.newb _ _).mono hb.size)).trans ((Tx.newb _ _).mono (by simp; omega))).grown hg7 (by simp; omega) (fun j hj => (hown.lt j hj).1)⟩
            case measure => simp [intOf]; omega
        · by_cases c34 : c = 34
          · subst c34
            have hIX := Qr.idx_c (s := s) (k := k)
            clear csg c32 n32
            rcases Sp.indexByte_cut 34 (s.data.toList.drop (k + 1)) with ⟨h1, h2⟩ | ⟨i, h1, h2⟩
            · have HN : Hid ((out ++ [⟨34, [], gl⟩]) ++ Qr.tokF true (s.data.toList.drop (k + 1)) = Qr.tokens s.data.toList) := Lib.hid (by rw [← HT2.out, Qr.tokF_open gl _ h2, List.append_assoc]; rfl)
              rw [h1] at hIX
              have HIX := Lib.hid hIX; clear hIX h1 h2
              go_wp2_with (first
                | (at_builtin; go_must (refine wpList_append_sl rfl _ _ 41 rfl w.heap.size 77 i0 _ 3 32 Tryz.underlying41 HI.out hz0 hz1 hz2 rfl (by decide) _ out.length _ rfl ((hown.alloc _).alloc _) (some ⟨_, 0, none⟩) 1 1 [.int .u8 _, .string ⟨#[]⟩, .bool gl] rfl rfl (fun h9 => by cases h9) (fun ad had => by cases had; exact Br.cells_new_at _ _ (by first | rfl | simp) _ _) (by simp [Value.oneCell']) (by unfold maxLen; omega) (by omega) (by simp; omega) ?_); intro v' w7 hown7 hg7 hnil7)
                | (go_at_call 49; refine (Tryz.strings_IndexByte _ 34 _).mono ?_; rintro e w5 ⟨rfl, rfl⟩; rw [show (34 : Int).toNat.toUInt8 = 34 from rfl, HIX.out]))
              go_roundw
              case rel => exact ⟨k + 1, _, true, hlt, by go_num, rfl, HN, by rw [List.length_append]; simp; omega, by rw [List.length_append, List.flatMap_append]; exact hown7, ((hb.trans ((Tx.newb _ _).mono hb.size)).trans ((Tx.newb _ _).mono (by simp; omega))).grown hg7 (by simp; omega) (fun j hj => (hown.lt j hj).1)⟩
              case measure => simp [intOf]; omega
            · have hil : k + 1 + i < s.size := by
                have := (Lib.indexByte_some h1).1
                have := (List.getElem?_eq_some_iff.1 this).1
                rw [List.length_drop, ← Lib.size_eq] at this
                omega
              have HN : Hid ((out ++ [⟨113, (s.data.toList.drop (k + 1)).take i, gl⟩]) ++ Qr.tokF true (s.data.toList.drop (k + (i + 2))) = Qr.tokens s.data.toList) := Lib.hid (by rw [← HT2.out, Qr.tokF_quote gl _ h2, List.append_assoc, List.drop_drop, show k + 1 + (i + 1) = k + (i + 2) by omega]; rfl)
              have hxe := Qr.ext_eq s (k + 1) (k + 1 + i)
              rw [Nat.add_sub_cancel_left] at hxe
              have HXE := Lib.hid hxe; clear hxe
              rw [h1] at hIX
              have HIX := Lib.hid hIX; clear hIX h1 h2
              have hw1 := IntWalk.i64_in ((k : Int) + 1) ⟨by omega, by omega⟩
              have hw2 := IntWalk.i64_in ((k : Int) + 1 + (i : Int)) ⟨by omega, by omega⟩
              have hw3 := IntWalk.i64_in ((i : Int) + 2) ⟨by omega, by omega⟩
              go_wp2_with (first
                | (go_at_call 49; refine (Tryz.strings_IndexByte _ 34 _).mono ?_; rintro e w5 ⟨rfl, rfl⟩; rw [show (34 : Int).toNat.toUInt8 = 34 from rfl, HIX.out]))
              obtain ⟨W6, hW6⟩ : ∃ W6, W6 = wr.alloc (.cells #[.int .u8 34, .string ⟨#[]⟩, .bool gl] 77) := ⟨_, rfl⟩
              have k6 : W6.heap[wr.heap.size]? = some (.cells #[.int .u8 34, .string ⟨#[]⟩, .bool gl] 77 (0, 0)) := by rw [hW6]; exact heap_alloc_new _ _
              have b6 : Below wr.heap.size wr W6 := by rw [hW6]; exact Tx.newb _ _
              have own6 := Tx.own_later b6 hown
              rw [← hW6]
              clear hW6
              obtain ⟨c6, f6, l6⟩ := Tx.blk k6
              have c60 := c6 0
              have c61 := c6 1
              have c62 := c6 2
              clear c6
              have hne6 : ∀ b, u3.ownBlock = some b → b ≠ wr.heap.size := fun b hb => by have := (hown.lt b hb).2; omega
              have HNE := Lib.hid hne6; clear hne6
              go_region
              obtain ⟨W8, hW8⟩ : ∃ W8, W8 = ((W6.setCell ⟨wr.heap.size, 0, none⟩ (.int .u8 113)).setCell ⟨wr.heap.size, 1, none⟩ (.string (s.extract (k + 1) (k + 1 + i)))).drew := ⟨_, rfl⟩
              have k8 : W8.heap[wr.heap.size]? = some (.cells #[.int .u8 113, .string (s.extract (k + 1) (k + 1 + i)), .bool gl] 77 (0, 0)) := by
                rw [hW8]
                have := Tx.blk_set (i := 1) (Tx.blk_set (i := 0) k6 (.int .u8 113)) (.string (s.extract (k + 1) (k + 1 + i)))
                exact (by simpa using this : ((W6.setCell ⟨wr.heap.size, 0, none⟩ (.int .u8 113)).setCell ⟨wr.heap.size, 1, none⟩ (.string (s.extract (k + 1) (k + 1 + i)))).heap[wr.heap.size]? = some (.cells #[.int .u8 113, .string (s.extract (k + 1) (k + 1 + i)), .bool gl] 77 (0, 0)))
              have own8 : W8.ownsRow w.heap.size 77 3 u3 out.length (out.flatMap Qr.encT) := by rw [hW8]; exact Tx.own_set (Tx.own_set own6 HNE.out _) HNE.out _
              have b8 : Below w.heap.size w W8 := by rw [hW8]; exact (((hb.trans (b6.mono hb.size)).setCell (show w.heap.size ≤ wr.heap.size by omega) _).setCell (show w.heap.size ≤ wr.heap.size by omega) _).drew
              have s8 := b8.size
              rw [← hW8]
              clear hW8 own6 b6 k6 c60 c61 c62 f6 l6
              obtain ⟨c8, f8, l8⟩ := Tx.blk k8
              have c80 := c8 0
              have c81 := c8 1
              have c82 := c8 2
              clear c8
              go_wp2_with (at_builtin; go_must (refine wpList_append_sl rfl _ _ 41 rfl w.heap.size 77 i0 _ 3 32 Tryz.underlying41 HI.out hz0 hz1 hz2 rfl (by decide) _ out.length _ rfl (own8.alloc _) (some ⟨_, 0, none⟩) 1 1 [.int .u8 113, .string (s.extract (k + 1) (k + 1 + i)), .bool gl] rfl rfl (fun h9 => by cases h9) (fun ad had => by cases had; exact Br.cells_new_at _ _ (by first | rfl | simp) _ _) (by simp [Value.oneCell']) (by unfold maxLen; omega) (by omega) (by simp; omega) ?_); intro v' w7 hown7 hg7 hnil7)
              go_roundw
              case rel => exact ⟨k + (i + 2), _, true, by omega, by go_num, rfl, HN, by rw [List.length_append]; simp; omega, by rw [List.length_append, List.flatMap_append]; have h9 := hown7; rw [← HXE.out] at h9; exact h9, (b8.alloc (by omega) _).grown hg7 (by simp; omega) (fun j hj => (hown.lt j hj).1)⟩
              case measure => simp [intOf]; omega
          · have hns : Qr.sgn c = false := by
              unfold Qr.sgn
              simp only [Bool.or_eq_false_iff, beq_eq_false_iff_ne]
              exact ⟨⟨⟨⟨⟨c32, fun h => csg (.inl h)⟩, fun h => csg (.inr (.inl h))⟩, fun h => csg (.inr (.inr (.inl h)))⟩, fun h => csg (.inr (.inr (.inr h)))⟩, c34⟩
            have n40 : ((c.toNat : Int) == 40) = false := beq_eq_false_iff_ne.2 (Qr.kn (n := 40) (by decide) (fun h => csg (.inl h)))
            have n41 : ((c.toNat : Int) == 41) = false := beq_eq_false_iff_ne.2 (Qr.kn (n := 41) (by decide) (fun h => csg (.inr (.inl h))))
            have n58 : ((c.toNat : Int) == 58) = false := beq_eq_false_iff_ne.2 (Qr.kn (n := 58) (by decide) (fun h => csg (.inr (.inr (.inl h)))))
            have n42 : ((c.toNat : Int) == 42) = false := beq_eq_false_iff_ne.2 (Qr.kn (n := 42) (by decide) (fun h => csg (.inr (.inr (.inr h)))))
            have n34 : ((c.toNat : Int) == 34) = false := beq_eq_false_iff_ne.2 (Qr.kn (n := 34) (by decide) c34)
            have HNS := Lib.hid hns; clear hns csg c34 c32
            have HDR : Hid (s.data.toList.drop k = c :: s.data.toList.drop (k + 1)) := Lib.hid (by rw [Qr.drop_at hlt, hcc])
            generalize wr = wo at *
            go_wp2
            obtain ⟨W6, hW6⟩ : ∃ W6, W6 = wo.alloc (.cells #[.int .u8 c.toNat, .string ⟨#[]⟩, .bool gl] 77) := ⟨_, rfl⟩
            have k6 : W6.heap[wo.heap.size]? = some (.cells #[.int .u8 c.toNat, .string ⟨#[]⟩, .bool gl] 77 (0, 0)) := by rw [hW6]; exact heap_alloc_new _ _
            have b6 : Below wo.heap.size wo W6 := by rw [hW6]; exact Tx.newb _ _
            have own6 := Tx.own_later b6 hown
            rw [← hW6]
            clear hW6
            have HNE : Hid (∀ b, u3.ownBlock = some b → b ≠ wo.heap.size) := Lib.hid (fun b hb => by have := (hown.lt b hb).2; omega)
            go_loopw [7] (fun nv wr => ∃ n : Nat, 1 ≤ n ∧ k + n ≤ s.size ∧ nv = .int .i64 n ∧ Hid (∀ j, 1 ≤ j → j < n → ∀ h : k + j < s.size, Qr.sgn (s[k + j]'h) = false) ∧ wr = W6) (fun nv _ => s.size - (intOf nv).toNat)
            case atStart => exact ⟨1, by omega, hlt, rfl, Lib.hid (fun j h1 h2 => by omega), rfl⟩
            case round =>
              obtain ⟨n, hn1, hn2, rfl, hin, hwr⟩ := hrel
              have hwr' : W6 = wr := hwr.symm
              clear hwr
              subst hwr'
              obtain ⟨c6, f6, l6⟩ := Tx.blk k6
              have c60 := c6 0
              have c61 := c6 1
              have c62 := c6 2
              clear c6
              obtain ⟨N, hN⟩ : ∃ N, k + n = N := ⟨_, rfl⟩
              have hNi : (k : Int) + (n : Int) = (N : Int) := by omega
              have hw := IntWalk.i64_in (N : Int) ⟨by omega, by omega⟩
              have hNk : (k : Int) ≤ (N : Int) := by omega
              have hNs : (N : Int) ≤ (s.size : Int) := by omega
              by_cases hlt2 : N < s.size
              · have hltk : k + n < s.size := by omega
                obtain ⟨d, hd⟩ : ∃ d, s[N]'hlt2 = d := ⟨_, rfl⟩
                have hkd : ∀ h : k + n < s.size, s[k + n]'h = d := fun h => by rw [← hd]; congr 1
                have HKD := Lib.hid hkd; clear hkd
                have hdd : ∀ h, s[N]'h = d := fun _ => hd
                clear hd
                have hix : Lib.indexByte (⟨#[32, 40, 41, 58, 42, 34]⟩ : ByteArray).data.toList (d.toNat : Int).toNat.toUInt8 = Lib.indexByte [32, 40, 41, 58, 42, 34] d := by
                  rw [Int.toNat_natCast]
                  congr 1
                  exact UInt8.ofNat_toNat
                obtain ⟨IX, hIX⟩ : ∃ IX, Lib.indexByte [32, 40, 41, 58, 42, 34] d = IX := ⟨_, rfl⟩
                have hsi := Qr.sgn_index d
                rw [hIX] at hix hsi
                have HIX := Lib.hid hix; clear hix hIX
                cases hsd : Qr.sgn d with
                | false =>
                  have hix0 : IX < 0 := hsi.2 hsd
                  have HI2 : Hid (∀ j, 1 ≤ j → j < n + 1 → ∀ h : k + j < s.size, Qr.sgn (s[k + j]'h) = false) := Lib.hid (fun j h1 h2 h => by
                    by_cases hj : j < n
                    · exact hin.out j h1 hj h
                    · obtain rfl : j = n := by omega
                      rw [HKD.out]
                      exact hsd)
                  clear hsi hsd
                  go_wp2_with (go_at_call 49; refine (Tryz.strings_IndexByte ⟨#[32, 40, 41, 58, 42, 34]⟩ (d.toNat : Int) _).mono ?_; rintro e w5 ⟨rfl, hw5⟩; have hw5' := hw5.symm; clear hw5; subst hw5'; rw [HIX.out])
                  go_roundw
                  case rel => exact ⟨n + 1, by omega, by omega, by go_num, HI2, by first | trivial | rfl⟩
                  case measure => simp [intOf]; omega
                | true =>
                  have hix0 : ¬ IX < 0 := fun h => by rw [hsi.1 h] at hsd; cases hsd
                  have HO : ∀ h : k + n < s.size, Qr.sgn (s[k + n]'h) = true := fun h => by rw [HKD.out]; exact hsd
                  clear hsi hsd
                  have hre := Qr.run_at (s := s) (k := k) (n := n) hn1 hn2 hin.out HO
                  have hrl : (Qr.run (s.data.toList.drop (k + 1))).length = n - 1 := by
                    rw [hre, List.length_take, List.length_drop, ← Lib.size_eq]
                    omega
                  have HN : Hid ((out ++ [⟨114, c :: Qr.run (s.data.toList.drop (k + 1)), gl⟩]) ++ Qr.tokF true (s.data.toList.drop (k + n)) = Qr.tokens s.data.toList) := Lib.hid (by rw [← HT2.out, Qr.tokF_run gl _ HNS.out, hrl, List.drop_drop, show k + 1 + (n - 1) = k + n by omega, List.append_assoc]; rfl)
                  have hxe := Qr.ext_eq s k N
                  rw [HDR.out, show N - k = (n - 1) + 1 by omega, List.take_succ_cons, ← hre] at hxe
                  have HXE := Lib.hid hxe; clear hxe hrl hre
                  go_wp2_with (go_at_call 49; refine (Tryz.strings_IndexByte ⟨#[32, 40, 41, 58, 42, 34]⟩ (d.toNat : Int) _).mono ?_; rintro e w5 ⟨rfl, hw5⟩; have hw5' := hw5.symm; clear hw5; subst hw5'; rw [HIX.out])
                  go_region
                  obtain ⟨W8, hW8⟩ : ∃ W8, W8 = ((W6.setCell ⟨wo.heap.size, 0, none⟩ (.int .u8 114)).setCell ⟨wo.heap.size, 1, none⟩ (.string (s.extract k N))).drew := ⟨_, rfl⟩
                  have k8 : W8.heap[wo.heap.size]? = some (.cells #[.int .u8 114, .string (s.extract k N), .bool gl] 77 (0, 0)) := by
                    rw [hW8]
                    have := Tx.blk_set (i := 1) (Tx.blk_set (i := 0) k6 (.int .u8 114)) (.string (s.extract k N))
                    exact (by simpa using this : ((W6.setCell ⟨wo.heap.size, 0, none⟩ (.int .u8 114)).setCell ⟨wo.heap.size, 1, none⟩ (.string (s.extract k N))).heap[wo.heap.size]? = some (.cells #[.int .u8 114, .string (s.extract k N), .bool gl] 77 (0, 0)))
                  have own8 : W8.ownsRow w.heap.size 77 3 u3 out.length (out.flatMap Qr.encT) := by rw [hW8]; exact Tx.own_set (Tx.own_set own6 HNE.out _) HNE.out _
                  have b8 : Below w.heap.size w W8 := by rw [hW8]; exact (((hb.trans (b6.mono hb.size)).setCell (show w.heap.size ≤ wo.heap.size by omega) _).setCell (show w.heap.size ≤ wo.heap.size by omega) _).drew
                  have s8 := b8.size
                  rw [← hW8]
                  clear hW8 own6 b6 k6 c60 c61 c62 f6 l6
                  obtain ⟨c8, f8, l8⟩ := Tx.blk k8
                  have c80 := c8 0
                  have c81 := c8 1
                  have c82 := c8 2
                  clear c8
                  go_wp2_with (at_builtin; go_must (refine wpList_append_sl rfl _ _ 41 rfl w.heap.size 77 i0 _ 3 32 Tryz.underlying41 HI.out hz0 hz1 hz2 rfl (by decide) _ out.length _ rfl (own8.alloc _) (some ⟨_, 0, none⟩) 1 1 [.int .u8 114, .string (s.extract k N), .bool gl] rfl rfl (fun h9 => by cases h9) (fun ad had => by cases had; exact Br.cells_new_at _ _ (by first | rfl | simp) _ _) (by simp [Value.oneCell']) (by unfold maxLen; omega) (by omega) (by simp; omega) ?_); intro v' w7 hown7 hg7 hnil7)
                  go_roundw
                  case rel => exact ⟨k + n, _, true, hn2, by go_num, rfl, HN, by rw [List.length_append]; simp; omega, by rw [List.length_append, List.flatMap_append]; have h9 := hown7; rw [← HXE.out] at h9; exact h9, (b8.alloc (by omega) _).grown hg7 (by simp; omega) (fun j hj => (hown.lt j hj).1)⟩
                  case measure => simp [intOf]; omega
              · have HO : ∀ h : k + n < s.size, Qr.sgn (s[k + n]'h) = true := fun h => by omega
                have hre := Qr.run_at (s := s) (k := k) (n := n) hn1 hn2 hin.out HO
                have hrl : (Qr.run (s.data.toList.drop (k + 1))).length = n - 1 := by
                  rw [hre, List.length_take, List.length_drop, ← Lib.size_eq]
                  omega
                have HN : Hid ((out ++ [⟨114, c :: Qr.run (s.data.toList.drop (k + 1)), gl⟩]) ++ Qr.tokF true (s.data.toList.drop (k + n)) = Qr.tokens s.data.toList) := Lib.hid (by rw [← HT2.out, Qr.tokF_run gl _ HNS.out, hrl, List.drop_drop, show k + 1 + (n - 1) = k + n by omega, List.append_assoc]; rfl)
                have hxe := Qr.ext_eq s k N
                rw [HDR.out, show N - k = (n - 1) + 1 by omega, List.take_succ_cons, ← hre] at hxe
                have HXE := Lib.hid hxe; clear hxe hrl hre
                go_wp2
                go_region
                obtain ⟨W8, hW8⟩ : ∃ W8, W8 = ((W6.setCell ⟨wo.heap.size, 0, none⟩ (.int .u8 114)).setCell ⟨wo.heap.size, 1, none⟩ (.string (s.extract k N))).drew := ⟨_, rfl⟩
                have k8 : W8.heap[wo.heap.size]? = some (.cells #[.int .u8 114, .string (s.extract k N), .bool gl] 77 (0, 0)) := by
                  rw [hW8]
                  have := Tx.blk_set (i := 1) (Tx.blk_set (i := 0) k6 (.int .u8 114)) (.string (s.extract k N))
                  exact (by simpa using this : ((W6.setCell ⟨wo.heap.size, 0, none⟩ (.int .u8 114)).setCell ⟨wo.heap.size, 1, none⟩ (.string (s.extract k N))).heap[wo.heap.size]? = some (.cells #[.int .u8 114, .string (s.extract k N), .bool gl] 77 (0, 0)))
                have own8 : W8.ownsRow w.heap.size 77 3 u3 out.length (out.flatMap Qr.encT) := by rw [hW8]; exact Tx.own_set (Tx.own_set own6 HNE.out _) HNE.out _
                have b8 : Below w.heap.size w W8 := by rw [hW8]; exact (((hb.trans (b6.mono hb.size)).setCell (show w.heap.size ≤ wo.heap.size by omega) _).setCell (show w.heap.size ≤ wo.heap.size by omega) _).drew
                have s8 := b8.size
                rw [← hW8]
                clear hW8 own6 b6 k6 c60 c61 c62 f6 l6
                obtain ⟨c8, f8, l8⟩ := Tx.blk k8
                have c80 := c8 0
                have c81 := c8 1
                have c82 := c8 2
                clear c8
                go_wp2_with (at_builtin; go_must (refine wpList_append_sl rfl _ _ 41 rfl w.heap.size 77 i0 _ 3 32 Tryz.underlying41 HI.out hz0 hz1 hz2 rfl (by decide) _ out.length _ rfl (own8.alloc _) (some ⟨_, 0, none⟩) 1 1 [.int .u8 114, .string (s.extract k N), .bool gl] rfl rfl (fun h9 => by cases h9) (fun ad had => by cases had; exact Br.cells_new_at _ _ (by first | rfl | simp) _ _) (by simp [Value.oneCell']) (by unfold maxLen; omega) (by omega) (by simp; omega) ?_); intro v' w7 hown7 hg7 hnil7)
                go_roundw
                case rel => exact ⟨k + n, _, true, hn2, by go_num, rfl, HN, by rw [List.length_append]; simp; omega, by rw [List.length_append, List.flatMap_append]; have h9 := hown7; rw [← HXE.out] at h9; exact h9, (b8.alloc (by omega) _).grown hg7 (by simp; omega) (fun j hj => (hown.lt j hj).1)⟩
                case measure => simp [intOf]; omega
    · go_wp2
      go_ret
      have hd : s.data.toList.drop k = [] := List.drop_eq_nil_of_le (by rw [← Lib.size_eq]; omega)
      have := hT.out
      rw [hd, Qr.tokF_nil, List.append_nil] at this
      rw [← this]
      exact ⟨_, rfl, hown, hb⟩
end Go.Proofs.YtkahplbjbidemaaGreatDoor
