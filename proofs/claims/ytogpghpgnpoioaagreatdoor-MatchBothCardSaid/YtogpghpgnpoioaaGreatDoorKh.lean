/- The reference's tests of moderate size: what the calls return. -/
import Derived.Test.YtogpghpgnpoioaaGreatDoorKd
import Derived.Test.YtogpghpgnpoioaaGreatDoorKe
import Derived.Test.YtogpghpgnpoioaaGreatDoorKb
import Derived.Test.YtogpghpgnpoioaaGreatDoorKf
namespace Go.Proofs.YtogpghpgnpoioaaGreatDoor
open Go.RowKit
set_option maxRecDepth 100000

namespace Rc
theorem all_take {α : Type} {p : α → Prop} {l : List α} {k : Nat} {x : α} (h : l[k]? = some x) (hp : p x) (ha : ∀ y ∈ l.take k, p y) : ∀ y ∈ l.take (k + 1), p y := by
  intro y hy
  rw [List.take_add_one, h, List.mem_append] at hy
  rcases hy with hy | hy
  · exact ha y hy
  · simp at hy; rw [hy]; exact hp
theorem smallF_true {f : Fl} (h1 : f.subs.length ≤ 20) (h2 : ∀ x ∈ f.subs, x.2.size ≤ 300) : smallF f = true := decide_eq_true ⟨h1, h2⟩
theorem smallF_len {f : Fl} (h1 : ¬ f.subs.length ≤ 20) : smallF f = false := decide_eq_false fun h => h1 h.1
theorem smallF_at {f : Fl} {k : Nat} {x : UInt8 × ByteArray} (h : f.subs[k]? = some x) (h2 : ¬ x.2.size ≤ 300) : smallF f = false := decide_eq_false fun h9 => h2 (h9.2 x (List.mem_of_getElem? h))
theorem smallR_true {fs : List Fl} (h1 : fs.length ≤ 70) (h2 : ∀ f ∈ fs, smallF f = true) : smallR fs = true := decide_eq_true ⟨h1, h2⟩
theorem smallR_len {fs : List Fl} (h1 : ¬ fs.length ≤ 70) : smallR fs = false := decide_eq_false fun h => h1 h.1
theorem smallR_at {fs : List Fl} {k : Nat} {f : Fl} (h : fs[k]? = some f) (h2 : smallF f = false) : smallR fs = false := decide_eq_false fun h9 => by have := h9.2 f (List.mem_of_getElem? h); rw [h2] at this; cases this
theorem smallF_of {f : Fl} (h : smallF f = true) : f.subs.length ≤ 20 ∧ ∀ x ∈ f.subs, x.2.size ≤ 300 := of_decide_eq_true h
theorem smallR_of {fs : List Fl} (h : smallR fs = true) : fs.length ≤ 70 ∧ ∀ f ∈ fs, smallF f = true := of_decide_eq_true h
end Rc

set_option maxHeartbeats 800000 in
theorem SmallField_c (f : Rc.Fl) (a : Option Addr) (c : Nat) (w : World) (h : Rc.SubA w a c f.subs) :
    Calls Tryz.prog 53 #[.agg #[.string f.tag, .string f.ind, .slice a f.subs.length c, .int .i64 f.auth]] w fun e w' => e = .returned (.bool (Rc.smallF f)) ∧ Below w.heap.size w w' := by
  obtain ⟨W, hW⟩ : ∃ W, w.alloc (.cells #[.string f.tag, .string f.ind, .slice a f.subs.length c, .int .i64 f.auth] 57) = W := ⟨_, rfl⟩
  have hB : Below w.heap.size w W := by rw [← hW]; exact Tx.newb _ _
  have c2 : W.cell? ⟨w.heap.size, 2, none⟩ = some (.slice a f.subs.length c) := by rw [← hW]; simp
  have hS := h.below hB
  have hcap := h.cap
  have hmx : maxLen = 9223372036854775807 := rfl
  have hmax := h.max
  by_cases hl : f.subs.length ≤ 20
  · go_enter Tryz.func53, Tryz.ntmps53
    go_wp2
    clear hW
    go_loop [3] (fun i => ∃ (k : Nat), k ≤ f.subs.length ∧ i = .int .i64 k ∧ Hid (∀ x ∈ f.subs.take k, x.2.size ≤ 300)) (fun i => f.subs.length - (intOf i).toNat)
    case atStart => exact ⟨0, Nat.zero_le _, rfl, Lib.hid (by simp)⟩
    case round =>
      obtain ⟨k, hk, rfl, hE⟩ := hrel
      by_cases hlt : k < f.subs.length
      · obtain ⟨x, hx⟩ : ∃ x, f.subs[k]? = some x := ⟨_, List.getElem?_eq_getElem hlt⟩
        obtain ⟨b, o, rfl, hbl, d0, d1⟩ := hS.get hx
        have HX := Lib.hid hx; clear hx
        by_cases hz : x.2.size ≤ 300
        · have hE2 := Lib.hid (Rc.all_take HX.out hz hE.out)
          go_wp2
          go_round
          case rel => exact ⟨k + 1, by omega, by go_num, hE2⟩
          case measure => simp [intOf]; omega
        · have HF := Lib.hid (Rc.smallF_at HX.out hz)
          go_wp2
          go_ret
          exact ⟨Tx.retb HF.out.symm, hB⟩
      · obtain rfl : k = f.subs.length := by omega
        have hE2 := hE.out
        rw [List.take_length] at hE2
        have HF := Lib.hid (Rc.smallF_true hl hE2)
        clear hE2
        go_wp2
        go_ret
        exact ⟨Tx.retb HF.out.symm, hB⟩
  · have HF := Lib.hid (Rc.smallF_len hl)
    go_enter Tryz.func53, Tryz.ntmps53
    go_wp2
    clear hW
    go_ret
    exact ⟨Tx.retb HF.out.symm, hB⟩

set_option maxHeartbeats 800000 in
theorem Small_c (fs : List Rc.Fl) (a : Option Addr) (c : Nat) (id ver kind : Int) (lang : ByteArray) (w : World) (h : Rc.FldA w a c fs) :
    Calls Tryz.prog 35 #[.agg #[.int .i64 id, .int .i64 ver, .int .i64 kind, .string lang, .slice a fs.length c]] w fun e w' => e = .returned (.bool (Rc.smallR fs)) ∧ Below w.heap.size w w' := by
  obtain ⟨W, hW⟩ : ∃ W, w.alloc (.cells #[.int .i64 id, .int .i64 ver, .int .i64 kind, .string lang, .slice a fs.length c] 33) = W := ⟨_, rfl⟩
  have hB : Below w.heap.size w W := by rw [← hW]; exact Tx.newb _ _
  have c4 : W.cell? ⟨w.heap.size, 4, none⟩ = some (.slice a fs.length c) := by rw [← hW]; simp
  have hWs : w.heap.size < W.heap.size := by rw [← hW]; simp
  have hcap := h.cap
  have hmx : maxLen = 9223372036854775807 := rfl
  have hmax := h.max
  by_cases hl : fs.length ≤ 70
  · go_enter Tryz.func35, Tryz.ntmps35
    go_wp2
    clear hW
    go_loopw [3] (fun i wr => ∃ (k : Nat), k ≤ fs.length ∧ i = .int .i64 k ∧ Hid (∀ f ∈ fs.take k, Rc.smallF f = true) ∧ Below W.heap.size W wr) (fun i _ => fs.length - (intOf i).toNat)
    case atStart => exact ⟨0, Nat.zero_le _, rfl, Lib.hid (by simp), Below.refl _ _⟩
    case round =>
      obtain ⟨k, hk, rfl, hE, hb⟩ := hrel
      have hbw := Tx.step hB hb
      replace c4 := cell_later hb c4
      by_cases hlt : k < fs.length
      · obtain ⟨f, hf⟩ : ∃ f, fs[k]? = some f := ⟨_, List.getElem?_eq_getElem hlt⟩
        obtain ⟨b, o, sa, sc, rfl, hbl, d0, d1, d2, d3, hsub⟩ := h.get hf
        replace d0 := cell_later hbw d0
        replace d1 := cell_later hbw d1
        replace d2 := cell_later hbw d2
        replace d3 := cell_later hbw d3
        have hsub2 := hsub.below hbw
        have HF := Lib.hid hf; clear hf
        cases hz : Rc.smallF f with
        | true =>
          have hE2 := Lib.hid (Rc.all_take HF.out hz hE.out)
          have HZ := Lib.hid hz; clear hz
          go_wp2_with (go_at_call 53; refine (SmallField_c f sa sc _ hsub2).mono ?_; rintro e w1 ⟨rfl, hb1⟩; rw [HZ.out])
          go_roundw
          case rel => exact ⟨k + 1, by omega, by go_num, hE2, Tx.step hb hb1⟩
          case measure => simp [intOf]; omega
        | false =>
          have HR := Lib.hid (Rc.smallR_at HF.out hz)
          have HZ := Lib.hid hz; clear hz
          go_wp2_with (go_at_call 53; refine (SmallField_c f sa sc _ hsub2).mono ?_; rintro e w1 ⟨rfl, hb1⟩; rw [HZ.out])
          go_ret
          exact ⟨Tx.retb HR.out.symm, Tx.step hbw hb1⟩
      · obtain rfl : k = fs.length := by omega
        have hE2 := hE.out
        rw [List.take_length] at hE2
        have HF := Lib.hid (Rc.smallR_true hl hE2)
        clear hE2
        go_wp2
        go_ret
        exact ⟨Tx.retb HF.out.symm, hbw⟩
  · have HF := Lib.hid (Rc.smallR_len hl)
    go_enter Tryz.func35, Tryz.ntmps35
    go_wp2
    clear hW
    go_ret
    exact ⟨Tx.retb HF.out.symm, hB⟩
end Go.Proofs.YtogpghpgnpoioaaGreatDoor

/- The reference's tests and sums of book numbers: what the calls return. -/
namespace Go.Proofs.YtogpghpgnpoioaaGreatDoor
open Go.RowKit
set_option maxRecDepth 100000

namespace Mt
theorem at_get {s : ByteArray} {k : Nat} (h : k < s.size) : s.data.toList[k]? = some (s[k]'h) := by
  have h' : k < s.data.toList.length := by rw [← Lib.size_eq]; exact h
  exact List.getElem?_eq_getElem h'
theorem take_at {s : ByteArray} {k : Nat} (h : k < s.size) : s.data.toList.take (k + 1) = s.data.toList.take k ++ [s[k]'h] := by
  rw [List.take_add_one, at_get h]; rfl
theorem getD_at {s : ByteArray} {k : Nat} (h : k < s.size) : s.data.toList.getD k 0 = s[k]'h := by
  rw [List.getD_eq_getElem?_getD, at_get h]; rfl
theorem take_end (s : ByteArray) : s.data.toList.take s.size = s.data.toList := List.take_of_length_le (by rw [← Lib.size_eq]; exact Nat.le_refl _)
theorem rem_app (a b : By) : rem (a ++ b) = rem a ++ rem b := by unfold rem; rw [List.filter_append]
theorem rem_hit {c : UInt8} (h : c = 45 ∨ c = 32) : rem [c] = [] := by rcases h with rfl | rfl <;> rfl
theorem rem_miss {c : UInt8} (h1 : c ≠ 45) (h2 : c ≠ 32) : rem [c] = [c] := by
  have e : (!(c == 45) && !(c == 32)) = true := by rw [beq_eq_false_iff_ne.2 h1, beq_eq_false_iff_ne.2 h2]; rfl
  unfold rem
  rw [List.filter_cons, if_pos e, List.filter_nil]
theorem rem_le (a : By) : (rem a).length ≤ a.length := List.length_filter_le _ _
theorem kn {c : UInt8} {n : Nat} (_hn : n < 256) (h : c ≠ UInt8.ofNat n) : (c.toNat : Int) ≠ (n : Int) := fun e => h (by
  have e2 : c.toNat = n := by omega
  rw [← e2, UInt8.ofNat_toNat])
abbrev u8s (l : By) : List Value := l.map fun x => Value.int .u8 x.toNat
theorem all_app (a : By) (c : UInt8) : (a ++ [c]).all dig = (a.all dig && dig c) := by rw [List.all_append]; simp
theorem dig_iff {c : UInt8} : dig c = true ↔ 48 ≤ c.toNat ∧ c.toNat ≤ 57 := by unfold dig; rw [Bool.and_eq_true, decide_eq_true_eq, decide_eq_true_eq]
theorem dig_not {c : UInt8} : dig c = false ↔ ¬ (48 ≤ c.toNat ∧ c.toNat ≤ 57) := by rw [← dig_iff, Bool.not_eq_true]
theorem all_bad {l : By} {k : Nat} {c : UInt8} (h : l[k]? = some c) (hc : dig c = false) : digits l = false := by
  unfold digits
  rw [List.all_eq_false]
  exact ⟨c, List.mem_of_getElem? h, by rw [hc]; simp⟩
theorem all_at {l : By} {k : Nat} {c : UInt8} (hd : digits l = true) (h : l[k]? = some c) : dig c = true := by
  unfold digits at hd
  exact List.all_eq_true.1 hd c (List.mem_of_getElem? h)
/-- The sums stay small. -/
theorem aS_in {l : By} (hd : digits l = true) : ∀ k, k ≤ l.length → 0 ≤ aS l k ∧ aS l k ≤ 27 * k
  | 0, _ => by simp [aS]
  | k + 1, h => by
    obtain ⟨h1, h2⟩ := aS_in hd k (by omega)
    have hk : l[k]? = some (l[k]'(by omega)) := List.getElem?_eq_getElem _
    obtain ⟨d1, d2⟩ := dig_iff.1 (all_at hd hk)
    have hg : l.getD k 0 = l[k]'(by omega) := by rw [List.getD_eq_getElem?_getD, hk]; rfl
    unfold aS
    rw [hg]
    split <;> omega
/-- Each character is a digit or X. -/
def okc (c : UInt8) : Prop := 48 ≤ c.toNat ∧ c.toNat ≤ 57 ∨ c = 88
theorem val_in {c : UInt8} (h : okc c) : 0 ≤ val c ∧ val c ≤ 10 := by
  unfold val
  rcases h with ⟨h1, h2⟩ | rfl
  · split <;> omega
  · rw [if_pos rfl]; omega
theorem wS_in {l : By} (hl : l.length ≤ 20) (hd : ∀ (k : Nat) (c : UInt8), l[k]? = some c → okc c) : ∀ k, k ≤ l.length → 0 ≤ wS l k ∧ wS l k ≤ 200 * k
  | 0, _ => by simp [wS]
  | k + 1, h => by
    obtain ⟨h1, h2⟩ := wS_in hl hd k (by omega)
    have hk : l[k]? = some (l[k]'(by omega)) := List.getElem?_eq_getElem _
    obtain ⟨d1, d2⟩ := val_in (hd _ _ hk)
    have hg : l.getD k 0 = l[k]'(by omega) := by rw [List.getD_eq_getElem?_getD, hk]; rfl
    unfold wS
    rw [hg]
    obtain ⟨m, hm⟩ : ∃ m : Int, (l.length : Int) - k = m := ⟨_, rfl⟩
    have hm1 : 0 ≤ m := by omega
    have hm2 : m ≤ 20 := by omega
    rw [hm]
    have p1 : 0 ≤ val l[k] * m := Int.mul_nonneg d1 hm1
    have p2 : val l[k] * m ≤ 10 * 20 := Int.mul_le_mul d2 hm2 hm1 (by decide)
    omega
end Mt
theorem info_u8 : (Tryz.prog.info? 5).map (fun i => (i.zero, i.size, i.bytes)) = some (some (.int .u8 0), 1, 1) := by kernel_rfl

set_option maxHeartbeats 1600000 in
theorem r05_Removed_c (s : ByteArray) (w : World) (hs : s.size ≤ 1000000000) :
    Calls Tryz.prog 97 #[.string s] w fun e w' => e = .returned (.string ⟨(Mt.rem s.data.toList).toArray⟩) ∧ Below w.heap.size w w' := by
  obtain ⟨i0, hi0, hz0, hz1, hz2⟩ := info_parts info_u8
  go_enter Tryz.func97, Tryz.ntmps97
  go_wp2
  go_loopw [3, 4] (fun v i wr => ∃ (k : Nat) (L : List UInt8), k ≤ s.size ∧ i = .int .i64 k ∧ Hid (L = Mt.rem (s.data.toList.take k)) ∧ L.length ≤ k ∧ wr.ownsRow w.heap.size 5 1 v L.length (Mt.u8s L) ∧ Hid (v ≠ .slice none 0 0) ∧ Below w.heap.size w wr) (fun _ i _ => s.size - (intOf i).toNat)
  case atStart =>
    refine ⟨0, [], Nat.zero_le _, rfl, Lib.hid rfl, Nat.le_refl _, ?_, Lib.hid (by simp), Tx.newb _ _⟩
    exact World.ownsRow_lit (base := w.heap.size) (e := 5) (size := 1) w #[] 0 (by simp) (by unfold maxLen; omega) rfl
  case round =>
    obtain ⟨k, L, hk, rfl, hL, hLk, hown, hnn, hb⟩ := hrel
    have hbs := hb.size
    by_cases hlt : k < s.size
    · obtain ⟨c, hc⟩ : ∃ c, s[k]'hlt = c := ⟨_, rfl⟩
      have hst : Mt.rem (s.data.toList.take (k + 1)) = L ++ Mt.rem [c] := by rw [Mt.take_at hlt, Mt.rem_app, ← hL.out, hc]
      have hcc : ∀ h, s[k]'h = c := fun _ => hc
      clear hc
      by_cases c45 : c = 45
      · rw [Mt.rem_hit (.inl c45), List.append_nil] at hst
        have HS := Lib.hid hst; clear hst
        subst c45
        go_wp2
        go_roundw
        case rel => exact ⟨k + 1, L, by omega, by go_num, Lib.hid HS.out.symm, by omega, hown, hnn, hb⟩
        case measure => simp [intOf]; omega
      by_cases c32 : c = 32
      · rw [Mt.rem_hit (.inr c32), List.append_nil] at hst
        have HS := Lib.hid hst; clear hst
        subst c32
        go_wp2
        go_roundw
        case rel => exact ⟨k + 1, L, by omega, by go_num, Lib.hid HS.out.symm, by omega, hown, hnn, hb⟩
        case measure => simp [intOf]; omega
      rw [Mt.rem_miss c45 c32] at hst
      have HS := Lib.hid hst; clear hst
      have n45 : ((c.toNat : Int) != 45) = true := bne_iff_ne.2 (Mt.kn (n := 45) (by decide) c45)
      have n32 : ((c.toNat : Int) != 32) = true := bne_iff_ne.2 (Mt.kn (n := 32) (by decide) c32)
      go_wp2_with (at_builtin; go_must (refine wpList_append_own _ rfl _ _ 99 rfl w.heap.size 5 i0 (.int .u8 0) 1 1 Tryz.underlying99 hi0 hz0 hz1 hz2 rfl (by decide) _ L.length _ rfl (hown.alloc _) ⟨_, 0, none⟩ 1 1 [.int .u8 c.toNat] rfl rfl (Tx.cell_one_at _ _ (by first | rfl | simp) _ _) (by simp [Value.oneCell']) (by unfold maxLen; omega) (by omega) (by simp; omega) ?_); intro v' w5 hown5 hg5 hnil5)
      have hb5 : Below w.heap.size w w5 := (hb.alloc hbs _).grown hg5 (by simp; omega) (fun j hj => (hown.lt j hj).1)
      go_roundw
      case rel => exact ⟨k + 1, L ++ [c], by omega, by go_num, Lib.hid HS.out.symm, by simp; omega, by simpa [Mt.u8s] using hown5, Lib.hid (fun e => by have := (hnil5.1 e).2; omega), hb5⟩
      case measure => simp [intOf]; omega
    · obtain rfl : k = s.size := by omega
      have hLs : L = Mt.rem s.data.toList := by rw [hL.out, Mt.take_end]
      have HLS := Lib.hid hLs; clear hLs hL
      rcases hown.2 with ⟨h0, _⟩ | ⟨g, cap, cur, rfl, _⟩
      · exact absurd h0 hnn.out
      · have hcv := run_convert_bytes_back (P := Tryz.prog) wr 99 9 5 ⟨g, 0, none⟩ cap L Tryz.underlying99 Tryz.underlying5 Tryz.underlying9 (fun j hj => (by
          have := hown.cellAt j (by omega)
          have e : (⟨g, 0, none⟩ : Addr).add j = ⟨g, j, none⟩ := by unfold Addr.add; split <;> simp_all
          rw [e, this, List.getElem?_map, List.getElem?_eq_getElem hj]
          rfl))
        go_wp2
        go_ret
        exact ⟨Tx.rets (by rw [HLS.out]), hb⟩

set_option maxHeartbeats 800000 in
theorem r05_Digits_c (s : ByteArray) (w : World) (hs : s.size ≤ 1000000000) :
    Calls Tryz.prog 98 #[.string s] w fun e w' => e = .returned (.bool (Mt.digits s.data.toList)) ∧ w = w' := by
  go_enter Tryz.func98, Tryz.ntmps98
  go_wp2
  go_loop [3] (fun i => ∃ k : Nat, k ≤ s.size ∧ i = .int .i64 k ∧ Hid ((s.data.toList.take k).all Mt.dig = true)) (fun i => s.size - (intOf i).toNat)
  case atStart => exact ⟨0, Nat.zero_le _, rfl, Lib.hid rfl⟩
  case round =>
    obtain ⟨k, hk, rfl, hA⟩ := hrel
    by_cases hlt : k < s.size
    · obtain ⟨c, hc⟩ : ∃ c, s[k]'hlt = c := ⟨_, rfl⟩
      have hat := Mt.at_get hlt
      rw [hc] at hat
      have hst : (s.data.toList.take (k + 1)).all Mt.dig = Mt.dig c := by rw [Mt.take_at hlt, Mt.all_app, hA.out, hc, Bool.true_and]
      have hcc : ∀ h, s[k]'h = c := fun _ => hc
      clear hc
      cases hd : Mt.dig c with
      | true =>
        obtain ⟨d1, d2⟩ := Mt.dig_iff.1 hd
        rw [hd] at hst
        have HS := Lib.hid hst
        have g1 : ¬ (c.toNat : Int) < 48 := by omega
        have g2 : ¬ (c.toNat : Int) > 57 := by omega
        clear hst hd hat hA
        go_wp2
        go_round
        case rel => exact ⟨k + 1, hlt, by go_num, HS⟩
        case measure => simp [intOf]; omega
      | false =>
        have HQ := Lib.hid (Mt.all_bad hat hd)
        have hn := Mt.dig_not.1 hd
        clear hst hd hat hA
        by_cases d1 : c.toNat < 48
        · have g1 : (c.toNat : Int) < 48 := by omega
          go_wp2
          go_ret
          exact ⟨Tx.retb (by rw [HQ.out]), rfl⟩
        · have g1 : ¬ (c.toNat : Int) < 48 := by omega
          have g2 : (c.toNat : Int) > 57 := by omega
          go_wp2
          go_ret
          exact ⟨Tx.retb (by rw [HQ.out]), rfl⟩
    · obtain rfl : k = s.size := by omega
      have HQ : Hid (Mt.digits s.data.toList = true) := Lib.hid (by have := hA.out; rw [Mt.take_end] at this; exact this)
      go_wp2
      go_ret
      exact ⟨Tx.retb (by rw [HQ.out]), rfl⟩

set_option maxHeartbeats 800000 in
theorem r05_alternating_c (s : ByteArray) (w : World) (hs : s.size ≤ 20) (hd : Mt.digits s.data.toList = true) :
    Calls Tryz.prog 99 #[.string s] w fun e w' => e = .returned (.int .i64 (Mt.aS s.data.toList s.size)) ∧ w = w' := by
  have HD := Lib.hid hd; clear hd
  have HE := Lib.hid (Lib.size_eq s)
  go_enter Tryz.func99, Tryz.ntmps99
  go_wp2
  go_loop [3, 4] (fun v i => ∃ (k : Nat) (n : Int), k ≤ s.size ∧ i = .int .i64 k ∧ v = .int .i64 n ∧ Hid (n = Mt.aS s.data.toList k)) (fun _ i => s.size - (intOf i).toNat)
  case atStart => exact ⟨0, 0, Nat.zero_le _, rfl, rfl, Lib.hid rfl⟩
  case round =>
    obtain ⟨k, n, hk, rfl, rfl, hn⟩ := hrel
    obtain ⟨b1, b2⟩ := Mt.aS_in HD.out k (by have := HE.out; omega)
    rw [← hn.out] at b1 b2
    by_cases hlt : k < s.size
    · obtain ⟨c, hc⟩ : ∃ c, s[k]'hlt = c := ⟨_, rfl⟩
      have hat := Mt.at_get hlt
      obtain ⟨d1, d2⟩ := Mt.dig_iff.1 (Mt.all_at HD.out hat)
      rw [hc] at d1 d2
      have hst : Mt.aS s.data.toList (k + 1) = n + (if k % 2 = 1 then 3 * ((c.toNat : Int) - 48) else (c.toNat : Int) - 48) := by rw [Mt.aS, ← hn.out, Mt.getD_at hlt, hc]
      have hcc : ∀ h, s[k]'h = c := fun _ => hc
      clear hc hat
      by_cases hp : k % 2 = 1
      · rw [if_pos hp] at hst
        have HS := Lib.hid hst
        have hp2 : (k : Int) % 2 = 1 := by omega
        have hp3 : (k : Int).tmod 2 = 1 := by rw [Int.tmod_eq_emod_of_nonneg (by omega)]; omega
        clear hst
        go_wp2
        go_round
        case rel => exact ⟨k + 1, _, hlt, by go_num, rfl, Lib.hid (by rw [HS.out])⟩
        case measure => simp [intOf]; omega
      · rw [if_neg hp] at hst
        have HS := Lib.hid hst
        have hp2 : (k : Int) % 2 = 0 := by omega
        have hp3 : (k : Int).tmod 2 = 0 := by rw [Int.tmod_eq_emod_of_nonneg (by omega)]; omega
        clear hst
        go_wp2
        go_round
        case rel => exact ⟨k + 1, _, hlt, by go_num, rfl, Lib.hid (by rw [HS.out])⟩
        case measure => simp [intOf]; omega
    · obtain rfl : k = s.size := by omega
      have e9 := hn.out
      subst e9
      go_wp2
      go_ret
      exact ⟨rfl, rfl⟩

set_option maxHeartbeats 800000 in
theorem r05_weighted_c (s : ByteArray) (w : World) (hs : s.size ≤ 20) (hd : ∀ (k : Nat) (c : UInt8), s.data.toList[k]? = some c → Mt.okc c) :
    Calls Tryz.prog 101 #[.string s] w fun e w' => e = .returned (.int .i64 (Mt.wS s.data.toList s.size)) ∧ w = w' := by
  have HD := Lib.hid hd; clear hd
  have HE := Lib.hid (Lib.size_eq s)
  go_enter Tryz.func101, Tryz.ntmps101
  go_wp2
  go_loop [3, 4] (fun v i => ∃ (k : Nat) (n : Int), k ≤ s.size ∧ i = .int .i64 k ∧ v = .int .i64 n ∧ Hid (n = Mt.wS s.data.toList k)) (fun _ i => s.size - (intOf i).toNat)
  case atStart => exact ⟨0, 0, Nat.zero_le _, rfl, rfl, Lib.hid rfl⟩
  case round =>
    obtain ⟨k, n, hk, rfl, rfl, hn⟩ := hrel
    obtain ⟨b1, b2⟩ := Mt.wS_in (by have := HE.out; omega) HD.out k (by have := HE.out; omega)
    rw [← hn.out] at b1 b2
    by_cases hlt : k < s.size
    · obtain ⟨c, hc⟩ : ∃ c, s[k]'hlt = c := ⟨_, rfl⟩
      have hat := Mt.at_get hlt
      have hok := HD.out _ _ hat
      rw [hc] at hok
      obtain ⟨v1, v2⟩ := Mt.val_in hok
      obtain ⟨m, hm⟩ : ∃ m : Int, (s.size : Int) - k = m := ⟨_, rfl⟩
      have hst : Mt.wS s.data.toList (k + 1) = n + Mt.val c * m := by rw [Mt.wS, ← hn.out, Mt.getD_at hlt, hc, ← HE.out, hm]
      have hm1 : 0 ≤ m := by omega
      have hm2 : m ≤ 20 := by omega
      have p1 : 0 ≤ Mt.val c * m := Int.mul_nonneg v1 hm1
      have p2 : Mt.val c * m ≤ 10 * 20 := Int.mul_le_mul v2 hm2 hm1 (by decide)
      have hcc : ∀ h, s[k]'h = c := fun _ => hc
      clear hc hat
      have HS := Lib.hid hst; clear hst
      have ws := IntWalk.i64_in ((s.size : Int) - k) ⟨by omega, by omega⟩
      rw [hm] at ws
      by_cases c88 : c = 88
      · have e : Mt.val c = 10 := by unfold Mt.val; rw [if_pos c88]
        rw [e] at p1 p2 HS
        subst c88
        have wm := IntWalk.i64_in (10 * m) ⟨by omega, by omega⟩
        have wa := IntWalk.i64_in (n + 10 * m) ⟨by omega, by omega⟩
        clear v1 v2 hok e
        go_wp2
        go_round
        case rel => exact ⟨k + 1, _, hlt, by go_num, rfl, Lib.hid (by rw [HS.out])⟩
        case measure => simp [intOf]; omega
      · have e : Mt.val c = (c.toNat : Int) - 48 := by unfold Mt.val; rw [if_neg c88]
        rw [e] at p1 p2 HS v1 v2
        have n88 : ((c.toNat : Int) == 88) = false := beq_eq_false_iff_ne.2 (Mt.kn (n := 88) (by decide) c88)
        obtain ⟨q, hq⟩ : ∃ q : Int, (c.toNat : Int) - 48 = q := ⟨_, rfl⟩
        rw [hq] at p1 p2 HS v1 v2
        have wm := IntWalk.i64_in (q * m) ⟨by omega, by omega⟩
        have wa := IntWalk.i64_in (n + q * m) ⟨by omega, by omega⟩
        clear hok e
        go_wp2
        go_round
        case rel => exact ⟨k + 1, _, hlt, by go_num, rfl, Lib.hid (by rw [HS.out])⟩
        case measure => simp [intOf]; omega
    · obtain rfl : k = s.size := by omega
      have e9 := hn.out
      subst e9
      go_wp2
      go_ret
      exact ⟨rfl, rfl⟩
end Go.Proofs.YtogpghpgnpoioaaGreatDoor
