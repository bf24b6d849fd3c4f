/- The reference's at and Phrase: what the calls return. -/
import Derived.Test.YtcjalpegffldaaaGreatDoorJh
namespace Go.Proofs.YtcjalpegffldaaaGreatDoor
open Go.RowKit
set_option maxRecDepth 100000

namespace Ix
open Rc
def atP (f : Int) (s : By) (id start : Int) (far : Nat) (p : Post) : Bool := decide (p.fld = f) && (p.word == s) && (p.id == id) && p.at_.any fun n => decide (IntKind.i64.wrap (n - far) = start)
theorem at_T (T : List PT) (f : Int) (s : By) (id start : Int) (far : Nat) : at_ (T.map (·.1)) f s id start far = T.any fun t => atP f s id start far t.1 := by
  unfold at_
  rw [List.any_map]
  rfl
def phrP (x : List Post) (f : Int) (s0 : By) (l : List By) (p : Post) : List Int := if wordP f s0 p = true then (p.at_.filter fun n => folF x f p.id n 1 l).map fun _ => p.id else []
def phrT (x : List Post) (f : Int) (s0 : By) (l : List By) (T : List PT) : List Int := T.flatMap fun t => phrP x f s0 l t.1
theorem phr_T (T : List PT) (f : Int) (s0 : By) (l : List By) : phr (T.map (·.1)) f (s0 :: l) = phrT (T.map (·.1)) f s0 l T := by
  have gen : ∀ (x : List Post) (U : List PT), ((U.map (·.1)).filter fun p => decide (p.fld = f) && (p.word == s0)).flatMap (fun p => (p.at_.filter fun n => folF x f p.id n 1 l).map fun _ => p.id) = U.flatMap fun t => phrP x f s0 l t.1 := by
    intro x U
    induction U with
    | nil => rfl
    | cons t U ih =>
      rw [List.map_cons, List.flatMap_cons, ← ih]
      by_cases hp : wordP f s0 t.1 = true
      · rw [List.filter_cons_of_pos (by exact hp), List.flatMap_cons, phrP, if_pos hp]
      · rw [List.filter_cons_of_neg (by exact hp), phrP, if_neg hp, List.nil_append]
  exact gen _ _
theorem phrT_take {x : List Post} {f : Int} {s0 : By} {l : List By} {T : List PT} {k : Nat} {t : PT} (h : T[k]? = some t) : phrT x f s0 l (T.take (k + 1)) = phrT x f s0 l (T.take k) ++ phrP x f s0 l t.1 := by
  unfold phrT
  rw [take_snoc h, List.flatMap_append]
  simp
theorem phrP_len (x : List Post) (f : Int) (s0 : By) (l : List By) (p : Post) : (phrP x f s0 l p).length ≤ p.at_.length := by
  unfold phrP
  split
  · rw [List.length_map]; exact List.length_filter_le _ _
  · exact Nat.zero_le _
theorem phrT_len {x : List Post} {f : Int} {s0 : By} {l : List By} : ∀ {T : List PT}, (∀ t ∈ T, t.1.at_.length ≤ 100000) → (phrT x f s0 l T).length ≤ 100000 * T.length
  | [], _ => Nat.zero_le _
  | t :: T, h => by
    have ih := phrT_len (x := x) (f := f) (s0 := s0) (l := l) (T := T) (fun u hu => h u (List.mem_cons_of_mem _ hu))
    have h1 := h t (List.mem_cons_self ..)
    have h2 := phrP_len x f s0 l t.1
    unfold phrT at ih ⊢
    rw [List.flatMap_cons, List.length_append, List.length_cons]
    omega
theorem folF_cons (x : List Post) (f id start : Int) (j : Nat) (s : By) (l : List By) : folF x f id start j (s :: l) = (at_ x f s id start j && folF x f id start (j + 1) l) := rfl
theorem filter_take {p : Int → Bool} {l : List Int} {k : Nat} {n id : Int} (h : l[k]? = some n) : ((l.take (k + 1)).filter p).map (fun _ => id) = ((l.take k).filter p).map (fun _ => id) ++ (if p n = true then [id] else []) := by
  rw [take_snoc h, List.filter_append, List.map_append]
  congr 1
  by_cases hp : p n = true <;> simp [hp]
end Ix

set_option maxHeartbeats 3200000 in
theorem r20_at_c (T : List Ix.PT) (a : Option Addr) (c : Nat) (f : Int) (s : Ix.By) (id start : Int) (far : Nat) (w : World) (h : Ix.PsA w a c T) (hn : T.length ≤ 1000000000) :
    Calls Tryz.prog 59 #[.agg #[.slice a T.length c], .int .i64 f, .string ⟨s.toArray⟩, .int .i64 id, .int .i64 start, .int .i64 far] w fun e w' => e = .returned (.bool (Ix.at_ (T.map (·.1)) f s id start far)) ∧ Below w.heap.size w w' := by
  have hcap := h.fa.cap
  obtain ⟨W, hW⟩ : ∃ W, w.alloc (.cells #[.slice a T.length c] 34) = W := ⟨_, rfl⟩
  have hB : Below w.heap.size w W := by rw [← hW]; exact Tx.newb _ _
  have c0 : W.cell? ⟨w.heap.size, 0, none⟩ = some (.slice a T.length c) := by rw [← hW]; simp
  have HS := Lib.hid (h.below hB); clear h
  rw [Ix.at_T]
  go_enter Tryz.func59, Tryz.ntmps59
  go_wp2
  clear hW
  go_loopw [13] (fun i wr => ∃ (k : Nat), k ≤ T.length ∧ i = .int .i64 k ∧ Hid ((T.drop k).any (fun t => Ix.atP f s id start far t.1) = T.any (fun t => Ix.atP f s id start far t.1)) ∧ Below W.heap.size W wr) (fun i _ => T.length - (intOf i).toNat)
  case atStart => exact ⟨0, Nat.zero_le _, rfl, Lib.hid rfl, Below.refl _ _⟩
  case round =>
    obtain ⟨k, hk, rfl, hE, hb⟩ := hrel
    have hbs := hb.size
    replace c0 := cell_later hb c0
    by_cases hlt : k < T.length
    · have hdr := hE.out
      obtain ⟨⟨y, ya, yc⟩, hy⟩ : ∃ y, T[k]? = some y := ⟨_, List.getElem?_eq_getElem hlt⟩
      obtain ⟨b, o, rfl, hbl, g0, g1, g2, g3, hat⟩ := HS.out.get hy
      simp only at g0 g1 g2 g3 hat
      replace g0 := cell_later hb g0
      replace g1 := cell_later hb g1
      replace g2 := cell_later hb g2
      replace g3 := cell_later hb g3
      have HAT := Lib.hid (hat.below hb)
      clear hat
      rw [Ix.drop_cons hy, List.any_cons] at hdr
      simp only at hdr
      have HE := Lib.hid hdr
      clear hdr hE hy
      obtain ⟨W1, hW1⟩ : ∃ W1, wr.alloc (.cells #[.int .i64 y.fld, .string ⟨y.word.toArray⟩, .int .i64 y.id, .slice ya y.at_.length yc] 52) = W1 := ⟨_, rfl⟩
      have hb1 : Below wr.heap.size wr W1 := by rw [← hW1]; exact Tx.newb _ _
      have z0 : W1.cell? ⟨wr.heap.size, 0, none⟩ = some (.int .i64 y.fld) := by rw [← hW1]; simp
      have z1 : W1.cell? ⟨wr.heap.size, 1, none⟩ = some (.string ⟨y.word.toArray⟩) := by rw [← hW1]; simp
      have z2 : W1.cell? ⟨wr.heap.size, 2, none⟩ = some (.int .i64 y.id) := by rw [← hW1]; simp
      have z3 : W1.cell? ⟨wr.heap.size, 3, none⟩ = some (.slice ya y.at_.length yc) := by rw [← hW1]; simp
      have HA1 := Lib.hid (HAT.out.below hb1)
      have hpc := HAT.out.cap
      have hpm := HAT.out.max
      unfold maxLen at hpm
      have hw1 := Tx.step hb hb1
      by_cases hx0 : ¬ y.fld = f
      · have t0 : (y.fld != f) = true := by simpa using hx0
        have hP : Ix.atP f s id start far y = false := by unfold Ix.atP; simp [hx0]
        clear hx0
        have HN : Hid ((T.drop (k + 1)).any (fun t => Ix.atP f s id start far t.1) = T.any (fun t => Ix.atP f s id start far t.1)) := Lib.hid (by rw [← HE.out, hP, Bool.false_or])
        clear hP
        go_wp2
        go_roundw
        case rel => exact ⟨k + 1, hlt, by go_num, HN, hw1⟩
        case measure => simp [intOf]; omega
      have t0 : (y.fld != f) = false := by simpa using hx0
      by_cases hx1 : ¬ y.word = s
      · have t1 : (y.word == s) = false := by simpa using hx1
        have hP : Ix.atP f s id start far y = false := by unfold Ix.atP; simp [hx1]
        clear hx0 hx1
        have HN : Hid ((T.drop (k + 1)).any (fun t => Ix.atP f s id start far t.1) = T.any (fun t => Ix.atP f s id start far t.1)) := Lib.hid (by rw [← HE.out, hP, Bool.false_or])
        clear hP
        go_wp2
        go_roundw
        case rel => exact ⟨k + 1, hlt, by go_num, HN, hw1⟩
        case measure => simp [intOf]; omega
      have t1 : (y.word == s) = true := by simpa using hx1
      by_cases hx2 : ¬ y.id = id
      · have t2 : (y.id != id) = true := by simpa using hx2
        have hP : Ix.atP f s id start far y = false := by unfold Ix.atP; simp [hx2]
        clear hx0 hx1 hx2
        have HN : Hid ((T.drop (k + 1)).any (fun t => Ix.atP f s id start far t.1) = T.any (fun t => Ix.atP f s id start far t.1)) := Lib.hid (by rw [← HE.out, hP, Bool.false_or])
        clear hP
        go_wp2
        go_roundw
        case rel => exact ⟨k + 1, hlt, by go_num, HN, hw1⟩
        case measure => simp [intOf]; omega
      have t2 : (y.id != id) = false := by simpa using hx2
      have hP : Ix.atP f s id start far y = y.at_.any fun n => decide (IntKind.i64.wrap (n - far) = start) := by
        simp only [Decidable.not_not] at hx0 hx1 hx2
        unfold Ix.atP
        simp [hx0, hx1, hx2]
      have HP := Lib.hid hP
      clear hP hx0 hx1 hx2
      go_wp2
      clear hW1
      go_loop [15] (fun i => ∃ (m : Nat), m ≤ y.at_.length ∧ i = .int .i64 m ∧ Hid ((y.at_.drop m).any (fun n => decide (IntKind.i64.wrap (n - far) = start)) = y.at_.any (fun n => decide (IntKind.i64.wrap (n - far) = start)))) (fun i => y.at_.length - (intOf i).toNat)
      case atStart => exact ⟨0, Nat.zero_le _, rfl, Lib.hid rfl⟩
      case round =>
        obtain ⟨m, hm, rfl, hA⟩ := hrel
        by_cases hlt2 : m < y.at_.length
        · obtain ⟨n, hn2⟩ : ∃ n, y.at_[m]? = some n := ⟨_, List.getElem?_eq_getElem hlt2⟩
          have hA2 := hA.out
          rw [Ix.drop_cons hn2, List.any_cons] at hA2
          obtain ⟨pb, po, rfl, hpb, p0⟩ := Ix.IA.cell HA1.out hn2
          clear hn2 hA
          by_cases hq : IntKind.i64.wrap (n - far) = start
          · rw [decide_eq_true hq, Bool.true_or] at hA2
            have HT : Hid (T.any (fun t => Ix.atP f s id start far t.1) = true) := Lib.hid (by rw [← HE.out, HP.out, ← hA2, Bool.true_or])
            have t5 : (wrap64 (n - far) == start) = true := by rw [← IntWalk.i64_left]; simpa using hq
            clear hA2 hq
            go_wp2
            go_ret
            exact ⟨by rw [HT.out]; rfl, Tx.step hB hw1⟩
          · rw [decide_eq_false hq, Bool.false_or] at hA2
            have HN := Lib.hid hA2
            have t5 : (wrap64 (n - far) == start) = false := by rw [← IntWalk.i64_left]; simpa using hq
            clear hA2 hq
            go_wp2
            go_round
            case rel => exact ⟨m + 1, hlt2, by go_num, HN⟩
            case measure => simp [intOf]; omega
        · obtain rfl : m = y.at_.length := by omega
          have hA2 := hA.out
          rw [List.drop_length] at hA2
          have HN : Hid ((T.drop (k + 1)).any (fun t => Ix.atP f s id start far t.1) = T.any (fun t => Ix.atP f s id start far t.1)) := Lib.hid (by rw [← HE.out, HP.out, ← hA2, List.any_nil, Bool.false_or])
          clear hA2 hA
          go_wp2
          go_roundw
          case rel => exact ⟨k + 1, hlt, by go_num, HN, hw1⟩
          case measure => simp [intOf]; omega
    · obtain rfl : k = T.length := by omega
      have hN := hE.out
      rw [List.drop_length] at hN
      have HN := Lib.hid hN; clear hN hE
      go_wp2
      go_ret
      exact ⟨by rw [← HN.out]; rfl, Tx.step hB hb⟩

set_option maxHeartbeats 6400000 in
theorem r20_Phrase_nil (T : List Ix.PT) (a : Option Addr) (c : Nat) (f : Int) (wa : Option Addr) (wc : Nat) (w : World) (h : Ix.PsA w a c T) :
    Calls Tryz.prog 27 #[.agg #[.slice a T.length c], .int .i64 f, .slice wa 0 wc] w fun e w' => ∃ v, e = .returned v ∧ Ix.OwnI w' w.heap.size v [] ∧ Below w.heap.size w w' := by
  have hcap := h.fa.cap
  obtain ⟨W, hW⟩ : ∃ W, w.alloc (.cells #[.slice a T.length c] 34) = W := ⟨_, rfl⟩
  have hB : Below w.heap.size w W := by rw [← hW]; exact Tx.newb _ _
  have c0 : W.cell? ⟨w.heap.size, 0, none⟩ = some (.slice a T.length c) := by rw [← hW]; simp
  rcases Nat.eq_zero_or_pos T.length with h0 | h0
  · have d0 : decide (0 < T.length) = false := by rw [h0]; rfl
    clear h0
    go_enter Tryz.func27, Tryz.ntmps27
    go_wp2
    clear hW
    go_loop [7, 8] (fun v i => v = .slice none 0 0 ∧ i = .int .i64 0) (fun _ _ => 0)
    case atStart => exact ⟨rfl, rfl⟩
    case round =>
      obtain ⟨rfl, rfl⟩ := hrel
      go_wp2
      go_ret
      exact ⟨.slice none 0 0, rfl, World.ownsRow_nil _ _ _ _, hB⟩
  · have d0 : decide (0 < T.length) = true := by simpa using h0
    go_enter Tryz.func27, Tryz.ntmps27
    go_wp2
    clear hW
    go_loop [7, 8] (fun v i => v = .slice none 0 0 ∧ i = .int .i64 0) (fun _ _ => 0)
    case atStart => exact ⟨rfl, rfl⟩
    case round =>
      obtain ⟨rfl, rfl⟩ := hrel
      go_wp2
      go_ret
      exact ⟨.slice none 0 0, rfl, World.ownsRow_nil _ _ _ _, hB⟩

set_option maxHeartbeats 6400000 in
theorem r20_Phrase_some (T : List Ix.PT) (a : Option Addr) (c : Nat) (f : Int) (s0 : Ix.By) (l : List Ix.By) (wa : Option Addr) (wc : Nat) (w : World) (h : Ix.PsA w a c T) (hn : T.length ≤ 1000) (hat : ∀ t ∈ T, t.1.at_.length ≤ 100000) (hw : SLA w wa wc ((s0 :: l).map fun x => (⟨x.toArray⟩ : ByteArray))) :
    Calls Tryz.prog 27 #[.agg #[.slice a T.length c], .int .i64 f, .slice wa (s0 :: l).length wc] w fun e w' => ∃ v, e = .returned v ∧ Ix.OwnI w' w.heap.size v (Cp.puts Cp.ltI (Ix.phrT (T.map (·.1)) f s0 l T)) ∧ Below w.heap.size w w' := by
  have hcap := h.fa.cap
  obtain ⟨ws, hws⟩ : ∃ ws, s0 :: l = ws := ⟨_, rfl⟩
  have hw0 : 0 < ws.length := by rw [← hws]; simp
  have hd0 : decide (0 < ws.length) = true := by simpa using hw0
  have HD : Hid (∀ x id n, Ix.folF x f id n 1 (ws.drop 1) = Ix.folF x f id n 1 l) := Lib.hid (fun _ _ _ => by rw [← hws]; rfl)
  rw [hws] at hw ⊢
  have hwcap := hw.cap
  have hwmax := hw.max
  rw [List.length_map] at hwcap
  unfold maxLen at hwmax
  obtain ⟨W, hW⟩ : ∃ W, w.alloc (.cells #[.slice a T.length c] 34) = W := ⟨_, rfl⟩
  have hB : Below w.heap.size w W := by rw [← hW]; exact Tx.newb _ _
  have c0 : W.cell? ⟨w.heap.size, 0, none⟩ = some (.slice a T.length c) := by rw [← hW]; simp
  obtain ⟨wb, wo, rfl, hwb, hwat⟩ := (hw.below hB).row (by intro e; rw [List.map_eq_nil_iff] at e; rw [e] at hw0; simp at hw0)
  have w0 : W.cell? ⟨wb, wo, none⟩ = some (.string ⟨s0.toArray⟩) := hwat 0 _ (by rw [← hws]; rfl)
  have HWAT : Hid (∀ (j : Nat) x, ws[j]? = some x → W.cell? ⟨wb, wo + j, none⟩ = some (.string ⟨x.toArray⟩)) := Lib.hid (fun j x hx => hwat j _ (by rw [List.getElem?_map, hx]; rfl))
  have HS := Lib.hid (h.below hB); clear h
  have HATL := Lib.hid hat
  have hbB := hB.size
  obtain ⟨X, hX⟩ : ∃ X, T.map (·.1) = X := ⟨_, rfl⟩
  rw [hX]
  have HX := Lib.hid hX
  clear hat hws hwat hX hw
  go_enter Tryz.func27, Tryz.ntmps27
  go_wp2
  clear hW
  go_loopw [7, 8] (fun v i wr => ∃ (k : Nat), k ≤ T.length ∧ i = .int .i64 k ∧ Ix.OwnI wr W.heap.size v (Cp.puts Cp.ltI (Ix.phrT X f s0 l (T.take k))) ∧ Below W.heap.size W wr) (fun _ i _ => T.length - (intOf i).toNat)
  case atStart => exact ⟨0, Nat.zero_le _, rfl, World.ownsRow_nil _ _ _ _, Below.refl _ _⟩
  case round =>
    obtain ⟨k, hk, rfl, hown, hb⟩ := hrel
    have hbs := hb.size
    replace c0 := cell_later hb c0
    replace w0 := cell_later hb w0
    by_cases hlt : k < T.length
    · have hkd : decide (k < T.length) = true := by simpa using hlt
      obtain ⟨⟨y, ya, yc⟩, hy⟩ : ∃ y, T[k]? = some y := ⟨_, List.getElem?_eq_getElem hlt⟩
      obtain ⟨b, o, rfl, hbl, g0, g1, g2, g3, hat⟩ := HS.out.get hy
      simp only at g0 g1 g2 g3 hat
      replace g0 := cell_later hb g0
      replace g1 := cell_later hb g1
      replace g2 := cell_later hb g2
      replace g3 := cell_later hb g3
      have HAT := Lib.hid (hat.below hb)
      clear hat
      have hpt := Ix.phrT_take (x := X) (f := f) (s0 := s0) (l := l) hy
      have hal := HATL.out _ (List.mem_of_getElem? hy)
      simp only at hpt hal
      have hpl := Ix.phrT_len (x := X) (f := f) (s0 := s0) (l := l) (T := T.take k) (fun t ht => HATL.out t (List.mem_of_mem_take ht))
      rw [List.length_take] at hpl
      obtain ⟨L, hL⟩ : ∃ L, Ix.phrT X f s0 l (T.take k) = L := ⟨_, rfl⟩
      rw [hL] at hpt hpl hown
      have hpl3 : L.length ≤ 100000000 := by omega
      have HPT := Lib.hid hpt
      clear hpt hpl hL hy
      obtain ⟨W1, hW1⟩ : ∃ W1, wr.alloc (.cells #[.int .i64 y.fld, .string ⟨y.word.toArray⟩, .int .i64 y.id, .slice ya y.at_.length yc] 52) = W1 := ⟨_, rfl⟩
      have hb1 : Below wr.heap.size wr W1 := by rw [← hW1]; exact Tx.newb _ _
      have z0 : W1.cell? ⟨wr.heap.size, 0, none⟩ = some (.int .i64 y.fld) := by rw [← hW1]; simp
      have z1 : W1.cell? ⟨wr.heap.size, 1, none⟩ = some (.string ⟨y.word.toArray⟩) := by rw [← hW1]; simp
      have z2 : W1.cell? ⟨wr.heap.size, 2, none⟩ = some (.int .i64 y.id) := by rw [← hW1]; simp
      have z3 : W1.cell? ⟨wr.heap.size, 3, none⟩ = some (.slice ya y.at_.length yc) := by rw [← hW1]; simp
      have w1 := cell_later hb1 w0
      have HA1 := Lib.hid (HAT.out.below hb1)
      have hpc := HAT.out.cap
      have hpm := HAT.out.max
      unfold maxLen at hpm
      have hw1 := Tx.step hb hb1
      have hown1 := own_below hown hb1
      by_cases hx0 : ¬ y.fld = f
      · have t0 : (y.fld != f) = true := by simpa using hx0
        have HP : Hid (Ix.phrT X f s0 l (T.take (k + 1)) = L) := Lib.hid (by rw [HPT.out, Ix.phrP, if_neg (by unfold Ix.wordP; simp [hx0]), List.append_nil])
        clear hx0
        go_wp2
        clear hW1
        go_quiet (fail)
        have hbq := Tx.below_drewN (Below.refl W1.heap.size W1) nq
        go_wp2
        go_roundw
        case rel => exact ⟨k + 1, hlt, by go_num, by rw [HP.out]; exact own_below hown1 hbq, Tx.step hw1 hbq⟩
        case measure => simp [intOf]; omega
      have t0 : (y.fld != f) = false := by simpa using hx0
      by_cases hx1 : ¬ y.word = s0
      · have t1 : (y.word == s0) = false := by simpa using hx1
        have HP : Hid (Ix.phrT X f s0 l (T.take (k + 1)) = L) := Lib.hid (by rw [HPT.out, Ix.phrP, if_neg (by unfold Ix.wordP; simp [hx1]), List.append_nil])
        clear hx0 hx1
        go_wp2
        clear hW1
        go_quiet (fail)
        have hbq := Tx.below_drewN (Below.refl W1.heap.size W1) nq
        go_wp2
        go_roundw
        case rel => exact ⟨k + 1, hlt, by go_num, by rw [HP.out]; exact own_below hown1 hbq, Tx.step hw1 hbq⟩
        case measure => simp [intOf]; omega
      have t1 : (y.word == s0) = true := by simpa using hx1
      have HP : Hid (Ix.phrT X f s0 l (T.take (k + 1)) = L ++ ((y.at_.take y.at_.length).filter fun n => Ix.folF X f y.id n 1 l).map fun _ => y.id) := Lib.hid (by
        rw [HPT.out, Ix.phrP, if_pos (by unfold Ix.wordP; simp at hx0 hx1; simp [hx0, hx1]), List.take_length])
      clear hx0 hx1
      go_wp2
      clear hW1
      go_quiet (fail)
      have hbq := Tx.below_drewN (Below.refl W1.heap.size W1) nq
      have hb2 := Tx.step hw1 hbq
      have hown2 := own_below hown1 hbq
      have HA2 := Lib.hid (HA1.out.below hbq)
      have y2 := cell_later hbq z2
      have y3 := cell_later hbq z3
      have x0 := cell_later hbq (cell_later hb1 c0)
      generalize W1.drewN nq = w2 at *
      clear z0 z1 z2 z3 w1 HA1 hown1 hw1 hown t0 t1 g0 g1 g2 g3
      obtain ⟨Z, hZ⟩ : ∃ Z, Z = wr.heap.size := ⟨_, rfl⟩
      rw [← hZ] at y2 y3
      rw [← hZ]
      clear hZ
      go_wp2
      go_loopw [7, 10] (fun v i wr => ∃ (m : Nat), m ≤ y.at_.length ∧ i = .int .i64 m ∧ Ix.OwnI wr W.heap.size v (Cp.puts Cp.ltI (L ++ ((y.at_.take m).filter fun n => Ix.folF X f y.id n 1 l).map fun _ => y.id)) ∧ Below w2.heap.size w2 wr) (fun _ i _ => y.at_.length - (intOf i).toNat)
      case atStart => exact ⟨0, Nat.zero_le _, rfl, by rw [List.take_zero, List.filter_nil, List.map_nil, List.append_nil]; exact hown2, Below.refl _ _⟩
      case round =>
        obtain ⟨m, hm, rfl, hown3, hb3⟩ := hrel
        have hb3s := hb3.size
        replace y2 := cell_later hb3 y2
        replace y3 := cell_later hb3 y3
        replace x0 := cell_later hb3 x0
        by_cases hlt2 : m < y.at_.length
        · obtain ⟨n, hn2⟩ : ∃ n, y.at_[m]? = some n := ⟨_, List.getElem?_eq_getElem hlt2⟩
          have hft := Ix.filter_take (p := fun n => Ix.folF X f y.id n 1 l) (id := y.id) hn2
          obtain ⟨A, hA⟩ : ∃ A, L ++ ((y.at_.take m).filter fun n => Ix.folF X f y.id n 1 l).map (fun _ => y.id) = A := ⟨_, rfl⟩
          have hAl : A.length ≤ 100100000 := by
            rw [← hA, List.length_append, List.length_map]
            have h1 := List.length_filter_le (fun n => Ix.folF X f y.id n 1 l) (y.at_.take m)
            rw [List.length_take] at h1
            omega
          have HFT : Hid (L ++ ((y.at_.take (m + 1)).filter fun n => Ix.folF X f y.id n 1 l).map (fun _ => y.id) = A ++ (if Ix.folF X f y.id n 1 l = true then [y.id] else [])) := Lib.hid (by rw [hft, ← List.append_assoc, hA])
          rw [hA] at hown3
          clear hft hA
          obtain ⟨pb, po, rfl, hpb, p0⟩ := Ix.IA.cell HA2.out hn2
          replace p0 := cell_later hb3 p0
          clear hn2
          obtain ⟨wn, hwn⟩ : ∃ wn, wn = wr := ⟨_, rfl⟩
          subst hwn
          have hm0 : (0 : Int) ≤ (m : Int) := by omega
          have hmn : (m : Int) < (y.at_.length : Int) := by omega
          have HF1 : Hid (Ix.folF X f y.id n 1 (ws.drop 1) = Ix.folF X f y.id n 1 l) := Lib.hid (HD.out X y.id n)
          go_wp2
          go_loopw [11, 12] (fun al j wr => ∃ (q : Nat) (d : Bool), 1 ≤ q ∧ q ≤ ws.length ∧ j = .int .i64 q ∧ al = .bool d ∧ Hid ((d && Ix.folF X f y.id n q (ws.drop q)) = Ix.folF X f y.id n 1 l) ∧ Below wn.heap.size wn wr) (fun _ j _ => ws.length - (intOf j).toNat)
          case atStart => exact ⟨1, true, Nat.le_refl _, hw0, by go_num, rfl, Lib.hid (by rw [Bool.true_and]; exact HF1.out), Below.refl _ _⟩
          case round =>
            obtain ⟨q, d, hq1, hql, rfl, rfl, hE, hb4⟩ := hrel
            have hb4s := hb4.size
            replace y2 := cell_later hb4 y2
            replace y3 := cell_later hb4 y3
            replace x0 := cell_later hb4 x0
            replace p0 := cell_later hb4 p0
            have hown4 := own_below hown3 hb4
            have hb5 := Tx.step hb3 hb4
            by_cases hlt3 : q < ws.length
            · have hqd : decide (q < ws.length) = true := by simpa using hlt3
              cases d with
              | true =>
                obtain ⟨s, hs⟩ : ∃ s, ws[q]? = some s := ⟨_, List.getElem?_eq_getElem hlt3⟩
                have wq := cell_later hb5 (cell_later hb2 (HWAT.out q s hs))
                have hE2 := hE.out
                rw [Ix.drop_cons hs, Ix.folF_cons, Bool.true_and] at hE2
                have HE2 := Lib.hid hE2
                have hq0 : (0 : Int) ≤ (q : Int) := by omega
                have hqn : (q : Int) < (ws.length : Int) := by omega
                clear hE2 hE hs
                go_wp2
                go_still_tail 14, (by kernel_rfl)
                change wpList _ _ _ _ _ wr.drew
                have hbq2 := (Below.refl wr.heap.size wr).drew
                have CA : Hid (∀ w', Below wr.heap.size wr w' → Calls Tryz.prog 59 #[.agg #[.slice (some ⟨b, o, none⟩) T.length c], .int .i64 f, .string ⟨s.toArray⟩, .int .i64 y.id, .int .i64 n, .int .i64 q] w' fun e w'' => e = .returned (.bool (Ix.at_ X f s y.id n q)) ∧ Below w'.heap.size w' w'') := Lib.hid (fun w' hb' => by
                  have h9 := r20_at_c T (some ⟨b, o, none⟩) c f s y.id n q w' (((HS.out.below hb2).below hb5).below hb') (by omega)
                  rw [HX.out] at h9
                  exact h9)
                generalize wr.drew = wq2 at hbq2 ⊢
                go_wp2_with (go_at_call 59; ((with_reducible refine (CA.out _ hbq2).mono ?_); rintro e w5 ⟨rfl, hb6⟩))
                go_roundw
                case rel => exact ⟨q + 1, _, by omega, hlt3, by go_num, rfl, HE2, Tx.step hb4 (Tx.step hbq2 hb6)⟩
                case measure => simp [intOf]; omega
              | false =>
                have hE2 := hE.out
                rw [Bool.false_and] at hE2
                have HA9 : Hid (L ++ ((y.at_.take (m + 1)).filter fun n => Ix.folF X f y.id n 1 l).map (fun _ => y.id) = A) := Lib.hid (by rw [HFT.out, ← hE2, if_neg (by decide), List.append_nil])
                clear hE2 hE
                go_wp2
                go_roundw
                case rel => exact ⟨m + 1, hlt2, by go_num, by rw [HA9.out]; exact hown4, hb5⟩
                case measure => simp [intOf]; omega
            · have hqd : decide (q < ws.length) = false := by simpa using hlt3
              obtain rfl : q = ws.length := by omega
              have hE2 := hE.out
              rw [List.drop_length, Ix.folF, Bool.and_true] at hE2
              cases d with
              | true =>
                have HA9 : Hid (L ++ ((y.at_.take (m + 1)).filter fun n => Ix.folF X f y.id n 1 l).map (fun _ => y.id) = A ++ [y.id]) := Lib.hid (by rw [HFT.out, ← hE2, if_pos rfl])
                have hpu := Ix.puts_len A
                obtain ⟨P, hP2⟩ : ∃ P, Cp.puts Cp.ltI A = P := ⟨_, rfl⟩
                have HPU : Hid (Cp.puts Cp.ltI (A ++ [y.id]) = Cp.put Cp.ltI P y.id) := Lib.hid (by rw [Ix.puts_snoc, hP2])
                rw [hP2] at hown4 hpu
                obtain ⟨oa, oc, rfl, hio, _⟩ := Ix.IA.of_own hown4 rfl
                have HIO := Lib.hid hio
                clear hE2 hE hP2 hio
                go_wp2_with (go_at_call 55; ((with_reducible refine (r20_insert_c P y.id oa oc _ HIO.out (by omega)).mono ?_); rintro e w6 ⟨v6, rfl, hown6, hb6⟩))
                have hWs := hb2.size
                have hWs2 := hb5.size
                go_roundw
                case rel => exact ⟨m + 1, hlt2, by go_num, by rw [HA9.out, HPU.out]; exact Ix.row_lower hown6 (by omega), Tx.step hb5 hb6⟩
                case measure => simp [intOf]; omega
              | false =>
                have HA9 : Hid (L ++ ((y.at_.take (m + 1)).filter fun n => Ix.folF X f y.id n 1 l).map (fun _ => y.id) = A) := Lib.hid (by rw [HFT.out, ← hE2, if_neg (by decide), List.append_nil])
                clear hE2 hE
                go_wp2
                go_roundw
                case rel => exact ⟨m + 1, hlt2, by go_num, by rw [HA9.out]; exact hown4, hb5⟩
                case measure => simp [intOf]; omega
        · obtain rfl : m = y.at_.length := by omega
          rw [← HP.out] at hown3
          go_wp2
          go_roundw
          case rel => exact ⟨k + 1, hlt, by go_num, hown3, Tx.step hb2 hb3⟩
          case measure => simp [intOf]; omega
    · have hkd : decide (k < T.length) = false := by simpa using hlt
      obtain rfl : k = T.length := by omega
      rw [List.take_length] at hown
      go_wp2
      go_ret
      exact ⟨_, rfl, Ix.row_lower hown hbB, Tx.step hB hb⟩

theorem r20_Phrase_c (T : List Ix.PT) (a : Option Addr) (c : Nat) (f : Int) (ws : List Ix.By) (wa : Option Addr) (wc : Nat) (w : World) (h : Ix.PsA w a c T) (hn : T.length ≤ 1000) (hat : ∀ t ∈ T, t.1.at_.length ≤ 100000) (hw : SLA w wa wc (ws.map fun x => (⟨x.toArray⟩ : ByteArray))) :
    Calls Tryz.prog 27 #[.agg #[.slice a T.length c], .int .i64 f, .slice wa ws.length wc] w fun e w' => ∃ v, e = .returned v ∧ Ix.OwnI w' w.heap.size v (Ix.phrase (T.map (·.1)) f ws) ∧ Below w.heap.size w w' := by
  cases ws with
  | nil => exact r20_Phrase_nil T a c f wa wc w h
  | cons s0 l =>
    unfold Ix.phrase
    rw [Ix.phr_T]
    exact r20_Phrase_some T a c f s0 l wa wc w h hn hat hw

end Go.Proofs.YtcjalpegffldaaaGreatDoor

/- The reference's Texts, Ints and Same: what the calls return. -/
namespace Go.Proofs.YtcjalpegffldaaaGreatDoor
open Go.RowKit
set_option maxRecDepth 100000

namespace Al
theorem eq_from {α : Type} {xs ys : List α} (hl : xs.length = ys.length) (h : ∀ j, j < xs.length → xs[j]? = ys[j]?) : xs = ys := by
  apply List.ext_getElem? 
  intro j
  rcases Nat.lt_or_ge j xs.length with h1 | h1
  · exact h j h1
  · rw [List.getElem?_eq_none h1, List.getElem?_eq_none (by omega)]
theorem ba_eq (x y : ByteArray) : (x.toList == y.toList) = decide (x = y) := by
  by_cases h : x = y
  · subst h; simp
  · have : x.toList ≠ y.toList := fun e => h (by rw [Lib.toList_data, Lib.toList_data] at e; exact ByteArray.ext (Array.toList_inj.1 e))
    simp [h, this]
end Al

set_option maxHeartbeats 1600000 in
theorem Texts_c (xs ys : List ByteArray) (a b : Option Addr) (c d : Nat) (w : World) (hx : SLA w a c xs) (hy : SLA w b d ys) :
    Calls Tryz.prog 11 #[.slice a xs.length c, .slice b ys.length d] w fun e w' => e = .returned (.bool (decide (xs = ys))) ∧ Below w.heap.size w w' := by
  have hcx := hx.cap
  have hmx := hx.max
  have hcy := hy.cap
  have hmy := hy.max
  have hml : maxLen = 9223372036854775807 := rfl
  by_cases hl : xs.length = ys.length
  · have HL := Lib.hid hl
    have hli : ((xs.length : Int) != (ys.length : Int)) = false := by simp [hl]
    clear hl
    go_enter Tryz.func11, Tryz.ntmps11
    go_wp2
    go_loopw [5] (fun i wr => ∃ (k : Nat), k ≤ xs.length ∧ i = .int .i64 k ∧ Hid (∀ j, j < k → xs[j]? = ys[j]?) ∧ Below w.heap.size w wr) (fun i _ => xs.length - (intOf i).toNat)
    case atStart => exact ⟨0, Nat.zero_le _, rfl, Lib.hid (fun j hj => absurd hj (by omega)), Below.refl _ _⟩
    case round =>
      obtain ⟨k, hk, rfl, hE, hb⟩ := hrel
      by_cases hlt : k < xs.length
      · obtain ⟨x, hxk⟩ : ∃ x, xs[k]? = some x := ⟨_, List.getElem?_eq_getElem hlt⟩
        have hlt2 : k < ys.length := by rw [← HL.out]; exact hlt
        obtain ⟨y, hyk⟩ : ∃ y, ys[k]? = some y := ⟨_, List.getElem?_eq_getElem hlt2⟩
        obtain ⟨bx, ox, rfl, hbx, cx⟩ := hx.get hxk
        obtain ⟨b1, o1, rfl, hb1, cy⟩ := hy.get hyk
        replace cx := cell_later hb cx
        replace cy := cell_later hb cy
        have hq := Al.ba_eq x y
        have g1 : (k : Int) < (xs.length : Int) := by omega
        have g2 : (k : Int) < (ys.length : Int) := by omega
        by_cases hxy : x = y
        · have hE2 : Hid (∀ j, j < k + 1 → xs[j]? = ys[j]?) := Lib.hid (fun j hj => by
            rcases Nat.lt_or_ge j k with h1 | h1
            · exact hE.out j h1
            · obtain rfl : j = k := by omega
              rw [hxk, hyk, hxy])
          rw [decide_eq_true hxy] at hq
          clear hxy hxk hyk
          go_wp2
          go_quiet (fail)
          go_wp2
          go_roundw
          case rel => exact ⟨k + 1, by omega, by go_num, hE2, Tx.below_drewN hb _⟩
          case measure => simp [intOf]; omega
        · have hne : Hid (xs ≠ ys) := Lib.hid (fun e => hxy (by rw [e, hyk] at hxk; injection hxk with h9; exact h9.symm))
          rw [decide_eq_false hxy] at hq
          clear hxy hxk hyk
          go_wp2
          go_quiet (fail)
          go_wp2
          go_ret
          exact ⟨Tx.retb (decide_eq_false hne.out).symm, Tx.below_drewN hb _⟩
      · obtain rfl : k = xs.length := by omega
        have he : Hid (xs = ys) := Lib.hid (Al.eq_from HL.out hE.out)
        go_wp2
        go_ret
        exact ⟨Tx.retb (decide_eq_true he.out).symm, hb⟩
  · have hne : Hid (xs ≠ ys) := Lib.hid (fun e => hl (by rw [e]))
    have hli : ((xs.length : Int) != (ys.length : Int)) = true := by simp; omega
    clear hl
    go_enter Tryz.func11, Tryz.ntmps11
    go_wp2
    go_ret
    exact ⟨Tx.retb (decide_eq_false hne.out).symm, Below.refl _ _⟩

set_option maxHeartbeats 1600000 in
theorem Ints_c (xs ys : List Int) (a b : Option Addr) (c d : Nat) (w : World) (hx : Ix.IA w a c xs) (hy : Ix.IA w b d ys) :
    Calls Tryz.prog 21 #[.slice a xs.length c, .slice b ys.length d] w fun e w' => e = .returned (.bool (decide (xs = ys))) ∧ Below w.heap.size w w' := by
  have hcx := hx.cap
  have hmx := hx.max
  have hcy := hy.cap
  have hmy := hy.max
  have hml : maxLen = 9223372036854775807 := rfl
  by_cases hl : xs.length = ys.length
  · have HL := Lib.hid hl
    have hli : ((xs.length : Int) != (ys.length : Int)) = false := by simp [hl]
    clear hl
    go_enter Tryz.func21, Tryz.ntmps21
    go_wp2
    go_loopw [5] (fun i wr => ∃ (k : Nat), k ≤ xs.length ∧ i = .int .i64 k ∧ Hid (∀ j, j < k → xs[j]? = ys[j]?) ∧ Below w.heap.size w wr) (fun i _ => xs.length - (intOf i).toNat)
    case atStart => exact ⟨0, Nat.zero_le _, rfl, Lib.hid (fun j hj => absurd hj (by omega)), Below.refl _ _⟩
    case round =>
      obtain ⟨k, hk, rfl, hE, hb⟩ := hrel
      by_cases hlt : k < xs.length
      · obtain ⟨x, hxk⟩ : ∃ x, xs[k]? = some x := ⟨_, List.getElem?_eq_getElem hlt⟩
        have hlt2 : k < ys.length := by rw [← HL.out]; exact hlt
        obtain ⟨y, hyk⟩ : ∃ y, ys[k]? = some y := ⟨_, List.getElem?_eq_getElem hlt2⟩
        obtain ⟨bx, ox, rfl, hbx, cx⟩ := Ix.IA.cell hx hxk
        obtain ⟨b1, o1, rfl, hb1, cy⟩ := Ix.IA.cell hy hyk
        replace cx := cell_later hb cx
        replace cy := cell_later hb cy
        have hq : (x != y) = !decide (x = y) := by by_cases h : x = y <;> simp [h]
        have g1 : (k : Int) < (xs.length : Int) := by omega
        have g2 : (k : Int) < (ys.length : Int) := by omega
        by_cases hxy : x = y
        · have hE2 : Hid (∀ j, j < k + 1 → xs[j]? = ys[j]?) := Lib.hid (fun j hj => by
            rcases Nat.lt_or_ge j k with h1 | h1
            · exact hE.out j h1
            · obtain rfl : j = k := by omega
              rw [hxk, hyk, hxy])
          rw [decide_eq_true hxy, Bool.not_true] at hq
          clear hxy hxk hyk
          go_wp2
          go_quiet (fail)
          go_wp2
          go_roundw
          case rel => exact ⟨k + 1, by omega, by go_num, hE2, Tx.below_drewN hb _⟩
          case measure => simp [intOf]; omega
        · have hne : Hid (xs ≠ ys) := Lib.hid (fun e => hxy (by rw [e, hyk] at hxk; injection hxk with h9; exact h9.symm))
          rw [decide_eq_false hxy, Bool.not_false] at hq
          clear hxy hxk hyk
          go_wp2
          go_quiet (fail)
          go_wp2
          go_ret
          exact ⟨Tx.retb (decide_eq_false hne.out).symm, Tx.below_drewN hb _⟩
      · obtain rfl : k = xs.length := by omega
        have he : Hid (xs = ys) := Lib.hid (Al.eq_from HL.out hE.out)
        go_wp2
        go_ret
        exact ⟨Tx.retb (decide_eq_true he.out).symm, hb⟩
  · have hne : Hid (xs ≠ ys) := Lib.hid (fun e => hl (by rw [e]))
    have hli : ((xs.length : Int) != (ys.length : Int)) = true := by simp; omega
    clear hl
    go_enter Tryz.func21, Tryz.ntmps21
    go_wp2
    go_ret
    exact ⟨Tx.retb (decide_eq_false hne.out).symm, Below.refl _ _⟩

set_option maxHeartbeats 3200000 in
theorem r20_Same_c (T U : List Ix.PT) (a b : Option Addr) (c d : Nat) (w : World) (h : Ix.PsA w a c T) (h2 : Ix.PsA w b d U) (he : T.map (·.1) = U.map (·.1)) :
    Calls Tryz.prog 16 #[.agg #[.slice a T.length c], .agg #[.slice b U.length d]] w fun e w' => e = .returned (.bool true) ∧ Below w.heap.size w w' := by
  have hcap := h.fa.cap
  have hcap2 := h2.fa.cap
  have hmx := h.fa.max
  have hmx2 := h2.fa.max
  unfold maxLen at hmx hmx2
  have hll : T.length = U.length := by have := congrArg List.length he; simpa using this
  have HLL := Lib.hid hll
  have HE := Lib.hid he
  have hnq : ((T.length : Int) != (U.length : Int)) = false := by simp [hll]
  obtain ⟨W, hW⟩ : ∃ W, (w.alloc (.cells #[.slice a T.length c] 34)).alloc (.cells #[.slice b U.length d] 34) = W := ⟨_, rfl⟩
  have hB : Below w.heap.size w W := by rw [← hW]; exact (Tx.newb _ _).alloc (by simp) _
  have c0 : W.cell? ⟨w.heap.size, 0, none⟩ = some (.slice a T.length c) := by rw [← hW]; simp
  have d0 : W.cell? ⟨w.heap.size + 1, 0, none⟩ = some (.slice b U.length d) := by rw [← hW]; simp
  have HS := Lib.hid (h.below hB); clear h
  have HS2 := Lib.hid (h2.below hB); clear h2
  clear he hll
  go_enter Tryz.func16, Tryz.ntmps16
  go_wp2
  clear hW
  go_loopw [5] (fun i wr => ∃ (k : Nat), k ≤ T.length ∧ i = .int .i64 k ∧ Below W.heap.size W wr) (fun i _ => T.length - (intOf i).toNat)
  case atStart => exact ⟨0, Nat.zero_le _, rfl, Below.refl _ _⟩
  case round =>
    obtain ⟨k, hk, rfl, hb⟩ := hrel
    have hbs := hb.size
    replace c0 := cell_later hb c0
    replace d0 := cell_later hb d0
    by_cases hlt : k < T.length
    · have hlt2 : k < U.length := by rw [← HLL.out]; exact hlt
      obtain ⟨⟨y, ya, yc⟩, hy⟩ : ∃ y, T[k]? = some y := ⟨_, List.getElem?_eq_getElem hlt⟩
      obtain ⟨⟨z, za, zc⟩, hz⟩ : ∃ z, U[k]? = some z := ⟨_, List.getElem?_eq_getElem hlt2⟩
      have hyz : y = z := by
        have h1 : (T.map (·.1))[k]? = some y := by rw [List.getElem?_map, hy]; rfl
        rw [HE.out, List.getElem?_map, hz] at h1
        injection h1 with h1
        exact h1.symm
      subst hyz
      obtain ⟨b1, o1, rfl, hbl1, g0, g1, g2, g3, hat1⟩ := HS.out.get hy
      obtain ⟨b2, o2, rfl, hbl2, e0, e1, e2, e3, hat2⟩ := HS2.out.get hz
      simp only at g0 g1 g2 g3 e0 e1 e2 e3 hat1 hat2
      replace g0 := cell_later hb g0
      replace g1 := cell_later hb g1
      replace g2 := cell_later hb g2
      replace g3 := cell_later hb g3
      replace e0 := cell_later hb e0
      replace e1 := cell_later hb e1
      replace e2 := cell_later hb e2
      replace e3 := cell_later hb e3
      have hbn : Below wr.heap.size wr (wr.alloc (.cells #[.int .i64 y.fld, .string ⟨y.word.toArray⟩, .int .i64 y.id, .slice ya y.at_.length yc] 52)) := Tx.newb _ _
      have m0 := cell_later hbn e0
      have m1 := cell_later hbn e1
      have m2 := cell_later hbn e2
      have m3 := cell_later hbn e3
      have n0 := cell_later hbn d0
      obtain ⟨W1, hW1⟩ : ∃ W1, (wr.alloc (.cells #[.int .i64 y.fld, .string ⟨y.word.toArray⟩, .int .i64 y.id, .slice ya y.at_.length yc] 52)).alloc (.cells #[.int .i64 y.fld, .string ⟨y.word.toArray⟩, .int .i64 y.id, .slice za y.at_.length zc] 52) = W1 := ⟨_, rfl⟩
      have hb1 : Below wr.heap.size wr W1 := by rw [← hW1]; exact (Tx.newb _ _).alloc (by simp) _
      have p0 : W1.cell? ⟨wr.heap.size, 0, none⟩ = some (.int .i64 y.fld) := by rw [← hW1]; simp
      have p1 : W1.cell? ⟨wr.heap.size, 1, none⟩ = some (.string ⟨y.word.toArray⟩) := by rw [← hW1]; simp
      have p2 : W1.cell? ⟨wr.heap.size, 2, none⟩ = some (.int .i64 y.id) := by rw [← hW1]; simp
      have p3 : W1.cell? ⟨wr.heap.size, 3, none⟩ = some (.slice ya y.at_.length yc) := by rw [← hW1]; simp
      have q0 : W1.cell? ⟨wr.heap.size + 1, 0, none⟩ = some (.int .i64 y.fld) := by rw [← hW1]; simp
      have q1 : W1.cell? ⟨wr.heap.size + 1, 1, none⟩ = some (.string ⟨y.word.toArray⟩) := by rw [← hW1]; simp
      have q2 : W1.cell? ⟨wr.heap.size + 1, 2, none⟩ = some (.int .i64 y.id) := by rw [← hW1]; simp
      have q3 : W1.cell? ⟨wr.heap.size + 1, 3, none⟩ = some (.slice za y.at_.length zc) := by rw [← hW1]; simp
      have CI : Hid (∀ w', Below wr.heap.size wr w' → Calls Tryz.prog 21 #[.slice ya y.at_.length yc, .slice za y.at_.length zc] w' fun e w'' => e = .returned (.bool true) ∧ Below w'.heap.size w' w'') := Lib.hid (fun w' hb' => by
        have h9 := Ints_c y.at_ y.at_ ya za yc zc w' ((hat1.below hb).below hb') ((hat2.below hb).below hb')
        rw [decide_eq_true rfl] at h9
        exact h9)
      have t0 : (y.fld != y.fld) = false := by simp
      have t1 : (y.word == y.word) = true := by simp
      have t2 : (y.id != y.id) = false := by simp
      clear hat1 hat2 hy hz hbn
      go_wp2_with (go_at_call 21; ((with_reducible refine (CI.out _ hb1).mono ?_); rintro e w5 ⟨rfl, hb5⟩))
      go_roundw
      case rel => exact ⟨k + 1, hlt, by go_num, Tx.step (Tx.step hb hb1) hb5⟩
      case measure => simp [intOf]; omega
    · obtain rfl : k = T.length := by omega
      go_wp2
      go_ret
      exact ⟨rfl, Tx.step hB hb⟩

end Go.Proofs.YtcjalpegffldaaaGreatDoor
