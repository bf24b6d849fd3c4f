/- Layer 41: the law MessageRestores: the call returns true. -/
import Derived.Test.YtbacgfokgphgeaaDoorMsgP
namespace Go.Proofs.YtbacgfokgphgeaaDoor
open Go.RowKit
set_option maxRecDepth 100000

set_option maxHeartbeats 2000000 in
theorem restores_c (f t r s k rc d : Int) (n : ByteArray) (w : World) (hn : n.size ≤ 9223372036854775807) (hG : G w) :
    Calls Tryd.prog 7 #[.agg #[.int .i64 f, .int .i64 t, .int .i64 r, .int .i64 s, .int .i64 k, .int .i64 rc, .int .i64 d, .string n]] w fun e w' => e = .returned (.bool true) ∧ Below w.heap.size w w' := by
  have a0 := Tx.newb w (.cells #[.int .i64 f, .int .i64 t, .int .i64 r, .int .i64 s, .int .i64 k, .int .i64 rc, .int .i64 d, .string n] 23)
  have k0 := heap_alloc_new w (.cells #[.int .i64 f, .int .i64 t, .int .i64 r, .int .i64 s, .int .i64 k, .int .i64 rc, .int .i64 d, .string n] 23)
  by_cases hbig : 300 < n.size
  · have hbz : (300 : Int) < (n.size : Int) := by omega
    go_enter Tryd.func7, Tryd.ntmps7
    go_wp2_with fail
    refine (alive_c _ (hG.below a0)).mono ?_
    rintro e w1 ⟨rfl, hb1⟩
    go_wp2
    go_ret
    exact ⟨rfl, a0.trans (hb1.mono a0.size)⟩
  · have hbz : ¬ (300 : Int) < (n.size : Int) := by omega
    have hs : n.size ≤ 1000000000 := by omega
    by_cases hr : Mg.right f t r s k rc d n.data.toList = 0
    · obtain ⟨q1, q2, ⟨b, hb, hb32⟩, ⟨c, hc, hc32⟩⟩ := Mg.line_ends hr
      have hpl := Mg.parse_line hr
      obtain ⟨L, hL⟩ : ∃ L, Mg.line f t r s k rc d n.data.toList = L := ⟨_, rfl⟩
      have hps : Mg.printS f t r s k rc d n.data.toList = L := by unfold Mg.printS; rw [if_pos hr, hL]
      rw [hL] at q1 q2 hb hc hpl
      have HR := Lib.hid hr; have HP := Lib.hid hps; have HPL := Lib.hid hpl
      have hsz : (⟨L.toArray⟩ : ByteArray).size = L.length := Tx.size_mk L
      have i1 : (13 : Int) ≤ ((⟨L.toArray⟩ : ByteArray).size : Int) := by omega
      have i2 : ((⟨L.toArray⟩ : ByteArray).size : Int) ≤ 100 := by omega
      have hs2 : (⟨L.toArray⟩ : ByteArray).size ≤ 1000000000 := by omega
      have e0 : ∀ h, (⟨L.toArray⟩ : ByteArray)[0]'h = b := fun h => by
        have h2 : L[0]? = some b := by rw [← List.head?_eq_getElem?]; exact hb
        have h3 := (List.getElem?_eq_some_iff.1 h2).2
        exact h3
      have e1 : ∀ h, (⟨L.toArray⟩ : ByteArray)[L.length - 1]'h = c := fun h => by
        have h2 : L[L.length - 1]? = some c := by rw [← List.getLast?_eq_getElem?]; exact hc
        have h3 := (List.getElem?_eq_some_iff.1 h2).2
        exact h3
      have b32 : ¬ ((b.toNat : Nat) : Int) = 32 := fun h => hb32 (UInt8.toNat.inj (by show b.toNat = 32; omega))
      have c32 : ¬ ((c.toNat : Nat) : Int) = 32 := fun h => hc32 (UInt8.toNat.inj (by show c.toNat = 32; omega))
      clear hr hL hps hpl hsz hb hc hb32 hc32
      go_enter Tryd.func7, Tryd.ntmps7
      go_wp2_with fail
      refine (print_i f t r s k rc d n _ hs (hG.below a0)).mono ?_
      rintro e w1 ⟨rfl, hb1⟩
      rw [HR.out, HP.out]
      have k1 := Tx.blk_later k0 hb1
      have a1 := a0.trans (hb1.mono a0.size)
      have K1 := Lib.hid k1; clear k0 k1
      go_wp2_with fail
      refine (parse_i ⟨L.toArray⟩ _ hs2 (hG.below a1)).mono ?_
      rintro e w2 ⟨rfl, hb2⟩
      rw [show (⟨L.toArray⟩ : ByteArray).data.toList = L from rfl, HPL.out]
      unfold Mg.cells
      dsimp only
      rw [← Tx.mk_list n]
      have a2 := a1.trans (hb2.mono a1.size)
      have k2 := Tx.blk_later K1.out hb2
      obtain ⟨c2, f2, l2⟩ := Tx.blk k2
      clear k2
      have a3 := a2.alloc a2.size (.cells #[.int .i64 f, .int .i64 t, .int .i64 r, .int .i64 s, .int .i64 k, .int .i64 rc, .int .i64 d, .string n] 23)
      go_wp2_with fail
      refine (alive_c _ (hG.below a3)).mono ?_
      rintro e w3 ⟨rfl, hb3⟩
      go_wp2
      go_ret
      exact ⟨Tx.retb (by rw [bne_iff_ne.2 b32, bne_iff_ne.2 c32]; rfl), a3.trans (hb3.mono a3.size)⟩
    · obtain ⟨e0, he⟩ : ∃ e0, Mg.right f t r s k rc d n.data.toList = e0 := ⟨_, rfl⟩
      have hps : Mg.printS f t r s k rc d n.data.toList = [] := by unfold Mg.printS; rw [if_neg hr]
      rw [he] at hr
      have HE := Lib.hid he; have HP := Lib.hid hps
      clear he hps
      go_enter Tryd.func7, Tryd.ntmps7
      go_wp2_with fail
      refine (print_i f t r s k rc d n _ hs (hG.below a0)).mono ?_
      rintro e w1 ⟨rfl, hb1⟩
      rw [HE.out, HP.out]
      have k1 := Tx.blk_later k0 hb1
      have a1 := a0.trans (hb1.mono a0.size)
      obtain ⟨c1, f1, l1⟩ := Tx.blk k1
      have K1 := Lib.hid k1; clear k0 k1
      go_wp2_with fail
      refine (right_i f t r s k rc d n _ hs (hG.below a1)).mono ?_
      rintro e w2 ⟨rfl, hb2⟩
      rw [HE.out]
      have a2 := a1.trans (hb2.mono a1.size)
      clear c1 f1 l1
      go_wp2_with fail
      refine (alive_c _ (hG.below a2)).mono ?_
      rintro e w3 ⟨rfl, hb3⟩
      go_wp2
      go_ret
      exact ⟨rfl, a2.trans (hb3.mono a2.size)⟩
end Go.Proofs.YtbacgfokgphgeaaDoor
