/- The program's Terms: what the call returns. -/
import Derived.Test.YtcjalpegffldaaaGreatDoorJl
import Derived.Deep.RegionHeld3
import Derived.Deep.RegionLaw
import Derived.Test.YtcjalpegffldaaaGreatDoorJd
import Derived.Test.YtcjalpegffldaaaGreatDoorJj
import Derived.Sort.OwnSorted
import Derived.Shelf.SlSortCmp.NoneTotal
namespace Go.Proofs.YtcjalpegffldaaaGreatDoor
open Go.RowKit
set_option maxRecDepth 100000

section
variable {P : Program} (w : World)
/-- A slice appended, at a step of a region, to one that the call owns; nil too. -/
theorem step_append_sl {ops : Array Oper} {o : Oper} {a : Act} {K : Act → World → Prop} {Q : Exit → Act → World → Prop} {E : Prop} (hgd : o.guard = none) (s x : Operand) (t : TypeId)
    (ho : o.op = .call { callee := .builtin .append, args := #[s, x], argTypes := #[t, t] })
    (base : Nat) (e : TypeId) (i : TypeInfo) (z : Value) (size bytes : Nat) (ht : P.underlying t = some (.slice e)) (hi : P.info? e = some i) (hz : i.zero = some z)
    (hsize : i.size = size) (hby : i.bytes = bytes) (hzs : z.cells.size = size) (hsz : 0 < size)
    (v : Value) (n : Nat) (xs : List Value) (hs : a.eval s = v) (hown : w.ownsRow base e size v n xs)
    (ao : Option Addr) (m c : Nat) (news : List Value) (hx : a.eval x = .slice ao m c) (hl : news.length = m * size) (hno : ao = none → m = 0) (hnews : ∀ ad, ao = some ad → ∀ j u, news[j]? = some u → w.cell? (ad.add j) = some u) (h1 : ∀ u ∈ news, u.oneCell' = true)
    (h63 : n + m ≤ maxLen) (hbytes : (n + m) * bytes ≤ 140737488355328) (hbase : base ≤ w.heap.size)
    (h : ∀ v' w', w'.ownsRow base e size v' (n + m) (xs ++ news) → w.grownBy w' v.ownBlock → K (a.put o.dst v') w') :
    if Region.wanted o (yielded ops a.tmps) = true then Oper.wp P o a w K Q else E := by
  have hw : Region.wanted o (yielded ops a.tmps) = true := by simp [Region.wanted, hgd]
  rw [if_pos hw]
  cases ao with
  | none =>
    obtain rfl := hno rfl
    have hn : news = [] := List.eq_nil_of_length_eq_zero (by rw [hl]; omega)
    subst hn
    have hrun := run_append_none_any (P := P) (w := w) base t o.type e i size ht hi v n xs hown c
    unfold Oper.wp execOp
    simp only [ho, resolve, invoke, builtin, Sem.run_bind, Sem.run_pure, Result.andThen_ok, List.map_toArray, List.map_cons, List.map_nil, hs, hx, hrun]
    exact h v w (by simpa using hown) ⟨rfl, rfl, rfl, Nat.le_refl _, fun _ _ _ => rfl⟩
  | some ad =>
    obtain ⟨v', w', hr, h2, h3, _, _⟩ := run_append_own_at (P := P) w base t o.type e i z size bytes ht hi hz hsize hby hzs hsz v n xs hown ad m c news hl (hnews ad rfl) h1 h63 hbytes hbase
    unfold Oper.wp execOp
    simp only [ho, resolve, invoke, builtin, Sem.run_bind, Sem.run_pure, Result.andThen_ok, List.map_toArray, List.map_cons, List.map_nil, hs, hx, hr]
    exact h v' w' h2 h3
end
theorem SLA.lit {w : World} {X : Nat} {s : ByteArray} (h : w.cell? ⟨X, 0, Option.none⟩ = some (.string s)) (hl : X < w.heap.size) : SLA w (some ⟨X, 0, Option.none⟩) 1 [s] :=
  ⟨Nat.le_refl _, by unfold maxLen; decide, X, 0, fun _ => ⟨rfl, hl⟩, fun j x hx => by
    have hj : j = 0 := by have := (List.getElem?_eq_some_iff.1 hx).1; simp at this; omega
    subst hj
    have : s = x := by simpa using hx
    rw [← this]; exact h⟩
theorem SLA.new {w : World} {xs : List ByteArray} {cs : Array Value} {t : TypeId} {X : Nat} (hX : X = w.heap.size) (hc : cs.toList = xs.map Value.string) (hl : xs.length ≤ 1000) : SLA (w.alloc (.cells cs t)) (some ⟨X, 0, Option.none⟩) xs.length xs :=
  ⟨Nat.le_refl _, by unfold maxLen; omega, X, 0, fun _ => ⟨rfl, by rw [hX]; simp⟩, fun j x hx => by
    have := Br.cells_new_at w X hX cs t j (Value.string x) (by rw [hc, List.getElem?_map, hx]; rfl)
    rw [Cs.add_at] at this
    exact this⟩
namespace Ix
open Rc
theorem ba_tag (t : ByteArray) (f : Fl) : tagIs t.data.toList f = decide (f.tag = t) := by
  unfold tagIs
  by_cases h : f.tag = t
  · rw [h]; simp
  · rw [decide_eq_false h, beq_eq_false_iff_ne]
    intro e
    exact h (ByteArray.ext (Array.toList_inj.1 e))
theorem tag_one (t : ByteArray) (f : Fl) : tagIs t.data.toList f = Lib.containsS [t] f.tag := by
  rw [ba_tag, Bool.eq_iff_iff, Lib.containsS_iff]
  simp
theorem auth_four (f : Fl) : authB f = Lib.containsS [⟨#[49, 48, 48]⟩, ⟨#[49, 49, 48]⟩, ⟨#[55, 48, 48]⟩, ⟨#[55, 49, 48]⟩] f.tag := by
  rw [Bool.eq_iff_iff, Lib.containsS_iff]
  unfold authB
  have e1 : tagIs [49, 48, 48] f = decide (f.tag = ⟨#[49, 48, 48]⟩) := ba_tag ⟨#[49, 48, 48]⟩ f
  have e2 : tagIs [49, 49, 48] f = decide (f.tag = ⟨#[49, 49, 48]⟩) := ba_tag ⟨#[49, 49, 48]⟩ f
  have e3 : tagIs [55, 48, 48] f = decide (f.tag = ⟨#[55, 48, 48]⟩) := ba_tag ⟨#[55, 48, 48]⟩ f
  have e4 : tagIs [55, 49, 48] f = decide (f.tag = ⟨#[55, 49, 48]⟩) := ba_tag ⟨#[55, 49, 48]⟩ f
  rw [e1, e2, e3, e4]
  simp only [Bool.or_eq_true, decide_eq_true_eq, List.mem_cons, List.not_mem_nil, or_false]
  constructor
  · rintro (((h | h) | h) | h)
    · exact .inl h
    · exact .inr (.inl h)
    · exact .inr (.inr (.inl h))
    · exact .inr (.inr (.inr h))
  · rintro (h | h | h | h)
    · exact .inl (.inl (.inl h))
    · exact .inl (.inl (.inr h))
    · exact .inl (.inr h)
    · exact .inr h
theorem beg_pre (d : UInt8) (f : Fl) : begB d f = Lib.hasPrefix f.tag.data.toList [d] := by
  unfold begB Lib.hasPrefix
  cases f.tag.data.toList with
  | nil => simp
  | cons b r =>
    simp [List.isPrefixOf]
    exact BEq.comm
theorem own_cells {w : World} {B : Nat} {v : Value} {A ws : List By} (h : w.ownsRow B 9 1 v (A.length + ws.length) (A.map Tx.sv ++ ws.map Tx.sv)) : OwnT w B v (A ++ ws) := by
  unfold OwnT
  rw [List.length_append, List.map_append]
  exact h
theorem sla_own_cells {w : World} {a : Option Addr} {c : Nat} {l : List By} (h : SLA w a c (l.map fun x => (⟨x.toArray⟩ : ByteArray))) : ∀ ad, a = some ad → ∀ j u, (l.map Tx.sv)[j]? = some u → w.cell? (ad.add j) = some u := fun ad had j u hu => h.cells ad had j u (by rw [List.map_map]; exact hu)
theorem sv_one (l : List By) : ∀ u ∈ l.map Tx.sv, u.oneCell' = true := fun u hu => by
  obtain ⟨x, _, rfl⟩ := List.mem_map.1 hu
  rfl
theorem sla_none {w : World} {a : Option Addr} {c : Nat} {l : List By} (h : SLA w a c (l.map fun x => (⟨x.toArray⟩ : ByteArray))) : a = none → l.length = 0 := fun ha => by
  have := h.none ha
  rwa [List.length_map] at this
end Ix

set_option maxHeartbeats 3200000 in
theorem ix_Terms_3 (fs : List Rc.Fl) (a : Option Addr) (c : Nat) (id ver kind : Int) (lang : ByteArray) (w : World) (hG : G w) (h : Rc.FldA w a c fs) (hM : Ix.Mod fs) (hV : ∀ f ∈ fs, Rc.Gd f) :
    Calls Tryz.prog 12 #[.agg #[.int .i64 id, .int .i64 ver, .int .i64 kind, .string lang, .slice a fs.length c], .int .i64 3] w fun e w' => ∃ v, e = .returned v ∧ Ix.OwnT w' w.heap.size v (Ix.term fs 3) ∧ Below w.heap.size w w' := by
  obtain ⟨W, hW⟩ : ∃ W, w.alloc (.cells #[.int .i64 id, .int .i64 ver, .int .i64 kind, .string lang, .slice a fs.length c] 24) = W := ⟨_, rfl⟩
  have hB : Below w.heap.size w W := by rw [← hW]; exact Tx.newb _ _
  have c0 : W.cell? ⟨w.heap.size, 0, none⟩ = some (.int .i64 id) := by rw [← hW]; simp
  have c1 : W.cell? ⟨w.heap.size, 1, none⟩ = some (.int .i64 ver) := by rw [← hW]; simp
  have c2 : W.cell? ⟨w.heap.size, 2, none⟩ = some (.int .i64 kind) := by rw [← hW]; simp
  have c3 : W.cell? ⟨w.heap.size, 3, none⟩ = some (.string lang) := by rw [← hW]; simp
  have c4 : W.cell? ⟨w.heap.size, 4, none⟩ = some (.slice a fs.length c) := by rw [← hW]; simp
  have hbB := hB.size
  have hWlt : w.heap.size < W.heap.size := by rw [← hW]; simp
  have CP : Hid (Calls Tryz.prog 35 #[.agg #[.int .i64 id, .int .i64 ver, .int .i64 kind, .string lang, .slice a fs.length c], .func (.func 37) #[] #[], .string ⟨#[97, 120, 121, 122]⟩] W fun e w' => ∃ v, e = .returned v ∧ Ix.OwnT w' W.heap.size v (Ix.pick (Ix.begB 54) [97, 120, 121, 122] fs) ∧ Below W.heap.size W w') := Lib.hid (picks_p6_c fs a c id ver kind lang (fun t => Lib.hasPrefix t.data.toList [54]) (Ix.begB 54) (fun f => Ix.beg_pre 54 f) ⟨#[97, 120, 121, 122]⟩ (by decide) W (hG.below hB) (h.below hB) hM hV (fun w' tag _ => ix_pre6_c tag w'))
  clear hG h hM hV
  go_enter Tryz.func12, Tryz.ntmps12
  go_wp2_with (go_at_call 35; ((with_reducible refine CP.out.mono ?_); rintro e w1 ⟨v, rfl, hown, hb1⟩))
  go_ret
  exact ⟨_, rfl, Ix.own_lower hown hbB, Tx.step hB hb1⟩

set_option maxHeartbeats 3200000 in
theorem ix_Terms_4 (fs : List Rc.Fl) (a : Option Addr) (c : Nat) (id ver kind : Int) (lang : ByteArray) (w : World) (hG : G w) (h : Rc.FldA w a c fs) (hM : Ix.Mod fs) (hV : ∀ f ∈ fs, Rc.Gd f) :
    Calls Tryz.prog 12 #[.agg #[.int .i64 id, .int .i64 ver, .int .i64 kind, .string lang, .slice a fs.length c], .int .i64 4] w fun e w' => ∃ v, e = .returned v ∧ Ix.OwnT w' w.heap.size v (Ix.term fs 4) ∧ Below w.heap.size w w' := by
  obtain ⟨W, hW⟩ : ∃ W, w.alloc (.cells #[.int .i64 id, .int .i64 ver, .int .i64 kind, .string lang, .slice a fs.length c] 24) = W := ⟨_, rfl⟩
  have hB : Below w.heap.size w W := by rw [← hW]; exact Tx.newb _ _
  have c0 : W.cell? ⟨w.heap.size, 0, none⟩ = some (.int .i64 id) := by rw [← hW]; simp
  have c1 : W.cell? ⟨w.heap.size, 1, none⟩ = some (.int .i64 ver) := by rw [← hW]; simp
  have c2 : W.cell? ⟨w.heap.size, 2, none⟩ = some (.int .i64 kind) := by rw [← hW]; simp
  have c3 : W.cell? ⟨w.heap.size, 3, none⟩ = some (.string lang) := by rw [← hW]; simp
  have c4 : W.cell? ⟨w.heap.size, 4, none⟩ = some (.slice a fs.length c) := by rw [← hW]; simp
  have hbB := hB.size
  have hWlt : w.heap.size < W.heap.size := by rw [← hW]; simp
  have CP : Hid (Calls Tryz.prog 39 #[.agg #[.int .i64 id, .int .i64 ver, .int .i64 kind, .string lang, .slice a fs.length c]] W fun e w' => ∃ v, e = .returned v ∧ Ix.OwnT w' W.heap.size v (Ix.term fs 4) ∧ Below W.heap.size W w') := Lib.hid (ix_numbers_c fs a c id ver kind lang W (hG.below hB) (h.below hB) hM hV)
  clear hG h hM hV
  go_enter Tryz.func12, Tryz.ntmps12
  go_wp2_with (go_at_call 39; ((with_reducible refine CP.out.mono ?_); rintro e w1 ⟨v, rfl, hown, hb1⟩))
  go_ret
  exact ⟨_, rfl, Ix.own_lower hown hbB, Tx.step hB hb1⟩

set_option maxHeartbeats 3200000 in
theorem ix_Terms_2 (fs : List Rc.Fl) (a : Option Addr) (c : Nat) (id ver kind : Int) (lang : ByteArray) (w : World) (hG : G w) (h : Rc.FldA w a c fs) (hM : Ix.Mod fs) (hV : ∀ f ∈ fs, Rc.Gd f) :
    Calls Tryz.prog 12 #[.agg #[.int .i64 id, .int .i64 ver, .int .i64 kind, .string lang, .slice a fs.length c], .int .i64 2] w fun e w' => ∃ v, e = .returned v ∧ Ix.OwnT w' w.heap.size v (Ix.term fs 2) ∧ Below w.heap.size w w' := by
  obtain ⟨W, hW⟩ : ∃ W, w.alloc (.cells #[.int .i64 id, .int .i64 ver, .int .i64 kind, .string lang, .slice a fs.length c] 24) = W := ⟨_, rfl⟩
  have hB : Below w.heap.size w W := by rw [← hW]; exact Tx.newb _ _
  have c0 : W.cell? ⟨w.heap.size, 0, none⟩ = some (.int .i64 id) := by rw [← hW]; simp
  have c1 : W.cell? ⟨w.heap.size, 1, none⟩ = some (.int .i64 ver) := by rw [← hW]; simp
  have c2 : W.cell? ⟨w.heap.size, 2, none⟩ = some (.int .i64 kind) := by rw [← hW]; simp
  have c3 : W.cell? ⟨w.heap.size, 3, none⟩ = some (.string lang) := by rw [← hW]; simp
  have c4 : W.cell? ⟨w.heap.size, 4, none⟩ = some (.slice a fs.length c) := by rw [← hW]; simp
  have hbB := hB.size
  have hWlt : w.heap.size < W.heap.size := by rw [← hW]; simp
  go_enter Tryz.func12, Tryz.ntmps12
  go_wp2
  clear hW
  go_region_held3 (fun w' => Below W.heap.size W w' ∧ w'.cell? ⟨w.heap.size, 0, none⟩ = some (.int .i64 id) ∧ w'.cell? ⟨w.heap.size, 1, none⟩ = some (.int .i64 ver) ∧ w'.cell? ⟨w.heap.size, 2, none⟩ = some (.int .i64 kind) ∧ w'.cell? ⟨w.heap.size, 3, none⟩ = some (.string lang) ∧ w'.cell? ⟨w.heap.size, 4, none⟩ = some (.slice a fs.length c))
    (first | exact ⟨(Below.refl _ _).drew, c0, c1, c2, c3, c4⟩ | (go_split_ands; exact ⟨Tx.step (by assumption) hbx, cell_later hbx (by assumption), cell_later hbx (by assumption), cell_later hbx (by assumption), cell_later hbx (by assumption), cell_later hbx (by assumption)⟩) | (go_split_ands; exact ⟨Tx.step (by assumption) (Tx.newb _ _), cell_later (Tx.newb _ _) (by assumption), cell_later (Tx.newb _ _) (by assumption), cell_later (Tx.newb _ _) (by assumption), cell_later (Tx.newb _ _) (by assumption), cell_later (Tx.newb _ _) (by assumption)⟩))
    (first
      | (go_split_ands; go_at_call 35; refine (picks_tg_c fs a c id ver kind lang bx (fun t => Lib.containsS [⟨#[49, 48, 48]⟩, ⟨#[49, 49, 48]⟩, ⟨#[55, 48, 48]⟩, ⟨#[55, 49, 48]⟩] t) (Ix.authB) (fun f => Ix.auth_four f) ⟨#[97]⟩ (by decide) _ (hG.below (Tx.step hB (by assumption))) (h.below (Tx.step hB (by assumption))) hM hV (fun w' tag hb' => ix_tag1_c tag bx [⟨#[49, 48, 48]⟩, ⟨#[49, 49, 48]⟩, ⟨#[55, 48, 48]⟩, ⟨#[55, 49, 48]⟩] w' (by first | exact hcap.below hb' | exact (hcap.below (Tx.newb _ _)).below hb' | exact (hcap.below ((Tx.newb _ _).drew)).below hb') (by simp))).mono ?_; rintro e ww ⟨v, rfl, hown, hb3⟩; have hbx := hb3)
      | (go_split_ands; go_at_call 36; refine (ix_tags_c [⟨#[49, 48, 48]⟩, ⟨#[49, 49, 48]⟩, ⟨#[55, 48, 48]⟩, ⟨#[55, 49, 48]⟩] _ _ _ ?_).mono ?_; (exact (SLA.new (xs := [⟨#[49, 48, 48]⟩, ⟨#[49, 49, 48]⟩, ⟨#[55, 48, 48]⟩, ⟨#[55, 49, 48]⟩]) (by first | rfl | simp) (by first | rfl | simp) (by decide)).below (Below.refl _ _).drew); rintro e ww ⟨bx, rfl, hcap, hb2⟩; have hbx := hb2))
  all_goals
    go_split_ands
    go_wp2
    go_ret
    exact ⟨_, rfl, Ix.own_lower hown (Nat.le_trans hbB (Below.size (B := W.heap.size) (by assumption))), Tx.step hB (by assumption)⟩

set_option maxHeartbeats 3200000 in
theorem ix_Terms_1 (fs : List Rc.Fl) (a : Option Addr) (c : Nat) (id ver kind : Int) (lang : ByteArray) (w : World) (hG : G w) (h : Rc.FldA w a c fs) (hM : Ix.Mod fs) (hV : ∀ f ∈ fs, Rc.Gd f) :
    Calls Tryz.prog 12 #[.agg #[.int .i64 id, .int .i64 ver, .int .i64 kind, .string lang, .slice a fs.length c], .int .i64 1] w fun e w' => ∃ v, e = .returned v ∧ Ix.OwnT w' w.heap.size v (Ix.term fs 1) ∧ Below w.heap.size w w' := by
  obtain ⟨W, hW⟩ : ∃ W, w.alloc (.cells #[.int .i64 id, .int .i64 ver, .int .i64 kind, .string lang, .slice a fs.length c] 24) = W := ⟨_, rfl⟩
  have hB : Below w.heap.size w W := by rw [← hW]; exact Tx.newb _ _
  have c0 : W.cell? ⟨w.heap.size, 0, none⟩ = some (.int .i64 id) := by rw [← hW]; simp
  have c1 : W.cell? ⟨w.heap.size, 1, none⟩ = some (.int .i64 ver) := by rw [← hW]; simp
  have c2 : W.cell? ⟨w.heap.size, 2, none⟩ = some (.int .i64 kind) := by rw [← hW]; simp
  have c3 : W.cell? ⟨w.heap.size, 3, none⟩ = some (.string lang) := by rw [← hW]; simp
  have c4 : W.cell? ⟨w.heap.size, 4, none⟩ = some (.slice a fs.length c) := by rw [← hW]; simp
  have hbB := hB.size
  have hWlt : w.heap.size < W.heap.size := by rw [← hW]; simp
  obtain ⟨i0, hi0, hz0, hz1, hz2⟩ := info_parts info_str
  have HI := Lib.hid hi0; clear hi0
  have L1 := Ix.pick_len (p := Rc.tagIs [50, 52, 53]) (codes := [97, 98, 110, 112]) hM
  have L2 := Ix.pick_len (p := Rc.tagIs [50, 52, 54]) (codes := [97, 98]) hM
  have hA0 : ((Ix.pick (Rc.tagIs [50, 52, 54]) [97, 98] fs).map Tx.sv).length = (Ix.pick (Rc.tagIs [50, 52, 54]) [97, 98] fs).length * 1 := by simp
  have hA1 : (Ix.pick (Rc.tagIs [50, 52, 53]) [97, 98, 110, 112] fs).length + (Ix.pick (Rc.tagIs [50, 52, 54]) [97, 98] fs).length ≤ maxLen := by unfold maxLen; omega
  have hA2 : ((Ix.pick (Rc.tagIs [50, 52, 53]) [97, 98, 110, 112] fs).length + (Ix.pick (Rc.tagIs [50, 52, 54]) [97, 98] fs).length) * 16 ≤ 140737488355328 := by omega
  go_enter Tryz.func12, Tryz.ntmps12
  go_wp2
  clear hW
  go_region_held3 (fun w' => Below W.heap.size W w' ∧ w'.cell? ⟨w.heap.size, 0, none⟩ = some (.int .i64 id) ∧ w'.cell? ⟨w.heap.size, 1, none⟩ = some (.int .i64 ver) ∧ w'.cell? ⟨w.heap.size, 2, none⟩ = some (.int .i64 kind) ∧ w'.cell? ⟨w.heap.size, 3, none⟩ = some (.string lang) ∧ w'.cell? ⟨w.heap.size, 4, none⟩ = some (.slice a fs.length c))
    (first | exact ⟨(Below.refl _ _).drew, c0, c1, c2, c3, c4⟩ | (go_split_ands; exact ⟨Tx.step (by assumption) hbx, cell_later hbx (by assumption), cell_later hbx (by assumption), cell_later hbx (by assumption), cell_later hbx (by assumption), cell_later hbx (by assumption)⟩) | (go_split_ands; exact ⟨Tx.step (by assumption) (Tx.newb _ _), cell_later (Tx.newb _ _) (by assumption), cell_later (Tx.newb _ _) (by assumption), cell_later (Tx.newb _ _) (by assumption), cell_later (Tx.newb _ _) (by assumption), cell_later (Tx.newb _ _) (by assumption)⟩) | (go_split_ands; exact ⟨Below.grown (by assumption) hg9 (Below.size (B := W.heap.size) (by assumption)) (fun j hj => (own9.lt j hj).1), (hg9.cell_far ⟨w.heap.size, 0, none⟩ (Nat.lt_of_lt_of_le hWlt hw9) hfar).trans (by assumption), (hg9.cell_far ⟨w.heap.size, 1, none⟩ (Nat.lt_of_lt_of_le hWlt hw9) hfar).trans (by assumption), (hg9.cell_far ⟨w.heap.size, 2, none⟩ (Nat.lt_of_lt_of_le hWlt hw9) hfar).trans (by assumption), (hg9.cell_far ⟨w.heap.size, 3, none⟩ (Nat.lt_of_lt_of_le hWlt hw9) hfar).trans (by assumption), (hg9.cell_far ⟨w.heap.size, 4, none⟩ (Nat.lt_of_lt_of_le hWlt hw9) hfar).trans (by assumption)⟩))
    (first
      | (go_split_ands; have hA3 := Below.size (B := W.heap.size) (w := W) (w' := ww) (by assumption); refine step_append_sl ww (by rfl) _ _ 28 (by rfl) W.heap.size 9 i0 _ 1 16 Tryz.underlying28 HI.out hz0 hz1 hz2 (by rfl) (by decide) _ (Ix.pick (Rc.tagIs [50, 52, 53]) [97, 98, 110, 112] fs).length _ (by rfl) (own9) sa (Ix.pick (Rc.tagIs [50, 52, 54]) [97, 98] fs).length sc ((Ix.pick (Rc.tagIs [50, 52, 54]) [97, 98] fs).map Tx.sv) (by rfl) hA0 (Ix.sla_none HSL.out) (Ix.sla_own_cells HSL.out) (Ix.sv_one (Ix.pick (Rc.tagIs [50, 52, 54]) [97, 98] fs)) hA1 hA2 hA3 ?_; intro v9 w9 hown9 hg9; have hfar : some w.heap.size ≠ _ := (fun e => by have := (own9.lt _ e.symm).1; omega); have hw9 := hA3)
      | (go_split_ands; go_at_call 35; refine (picks_tg_c fs a c id ver kind lang bx2 (fun t => Lib.containsS [⟨#[50, 52, 54]⟩] t) (Rc.tagIs [50, 52, 54]) (fun f => Ix.tag_one ⟨#[50, 52, 54]⟩ f) ⟨#[97, 98]⟩ (by decide) _ (hG.below (Tx.step hB (by assumption))) (h.below (Tx.step hB (by assumption))) hM hV (fun w' tag hb' => ix_tag1_c tag bx2 [⟨#[50, 52, 54]⟩] w' (by first | exact hcap2.below hb' | exact (hcap2.below (Tx.newb _ _)).below hb' | exact (hcap2.below ((Tx.newb _ _).drew)).below hb') (by simp))).mono ?_; rintro e ww ⟨v2, rfl, hown2, hb5⟩; have hbx := hb5; obtain ⟨sa, sc, rfl, hsl⟩ := Ix.own_sla hown2; have HSL := Lib.hid hsl; clear hsl hown2; have own9 := own_below (own_below hown1 hb34) hb5)
      | (go_split_ands; go_at_call 36; refine (ix_tags_c [⟨#[50, 52, 54]⟩] _ _ _ ?_).mono ?_; (first | exact (SLA.new (xs := [⟨#[50, 52, 54]⟩]) rfl rfl (by decide)) | exact (SLA.below (SLA.new (xs := [⟨#[50, 52, 54]⟩]) rfl rfl (by decide)) (Below.refl _ _).drew) | exact (SLA.new (xs := [⟨#[50, 52, 54]⟩]) (World.size_alloc _ _).symm rfl (by decide)) | exact (SLA.below (SLA.new (xs := [⟨#[50, 52, 54]⟩]) (World.size_alloc _ _).symm rfl (by decide)) (Below.refl _ _).drew) | exact (SLA.below (SLA.new (xs := [⟨#[50, 52, 54]⟩]) rfl rfl (by decide)) hb3) | exact (SLA.below (SLA.below (SLA.new (xs := [⟨#[50, 52, 54]⟩]) rfl rfl (by decide)) (Below.refl _ _).drew) hb3) | exact (SLA.below (SLA.new (xs := [⟨#[50, 52, 54]⟩]) (World.size_alloc _ _).symm rfl (by decide)) hb3) | exact (SLA.below (SLA.below (SLA.new (xs := [⟨#[50, 52, 54]⟩]) (World.size_alloc _ _).symm rfl (by decide)) (Below.refl _ _).drew) hb3) | exact (SLA.below (SLA.below (SLA.new (xs := [⟨#[50, 52, 54]⟩]) rfl rfl (by decide)) hb2) hb3) | exact (SLA.below (SLA.below (SLA.below (SLA.new (xs := [⟨#[50, 52, 54]⟩]) rfl rfl (by decide)) (Below.refl _ _).drew) hb2) hb3) | exact (SLA.below (SLA.below (SLA.new (xs := [⟨#[50, 52, 54]⟩]) (World.size_alloc _ _).symm rfl (by decide)) hb2) hb3) | exact (SLA.below (SLA.below (SLA.below (SLA.new (xs := [⟨#[50, 52, 54]⟩]) (World.size_alloc _ _).symm rfl (by decide)) (Below.refl _ _).drew) hb2) hb3) | exact (SLA.below (SLA.below (SLA.below (SLA.new (xs := [⟨#[50, 52, 54]⟩]) rfl rfl (by decide)) (Tx.newb _ _)) hb2) hb3) | exact (SLA.below (SLA.below (SLA.below (SLA.below (SLA.new (xs := [⟨#[50, 52, 54]⟩]) rfl rfl (by decide)) (Below.refl _ _).drew) (Tx.newb _ _)) hb2) hb3) | exact (SLA.below (SLA.below (SLA.below (SLA.new (xs := [⟨#[50, 52, 54]⟩]) (World.size_alloc _ _).symm rfl (by decide)) (Tx.newb _ _)) hb2) hb3) | exact (SLA.below (SLA.below (SLA.below (SLA.below (SLA.new (xs := [⟨#[50, 52, 54]⟩]) (World.size_alloc _ _).symm rfl (by decide)) (Below.refl _ _).drew) (Tx.newb _ _)) hb2) hb3) | exact (SLA.below (SLA.below (SLA.below (SLA.below (SLA.new (xs := [⟨#[50, 52, 54]⟩]) rfl rfl (by decide)) (Tx.newb _ _)) (Below.refl _ _).drew) hb2) hb3) | exact (SLA.below (SLA.below (SLA.below (SLA.below (SLA.below (SLA.new (xs := [⟨#[50, 52, 54]⟩]) rfl rfl (by decide)) (Below.refl _ _).drew) (Tx.newb _ _)) (Below.refl _ _).drew) hb2) hb3) | exact (SLA.below (SLA.below (SLA.below (SLA.below (SLA.new (xs := [⟨#[50, 52, 54]⟩]) (World.size_alloc _ _).symm rfl (by decide)) (Tx.newb _ _)) (Below.refl _ _).drew) hb2) hb3) | exact (SLA.below (SLA.below (SLA.below (SLA.below (SLA.below (SLA.new (xs := [⟨#[50, 52, 54]⟩]) (World.size_alloc _ _).symm rfl (by decide)) (Below.refl _ _).drew) (Tx.newb _ _)) (Below.refl _ _).drew) hb2) hb3)); rintro e ww ⟨bx2, rfl, hcap2, hb4⟩; have hbx := hb4; have hb34 : Below wp.heap.size wp ww := by first | exact hb4 | exact Tx.step (Tx.newb _ _) hb4 | exact Tx.step ((Tx.newb _ _).drew) hb4)
      | (go_split_ands; go_at_call 35; refine (picks_tg_c fs a c id ver kind lang bx (fun t => Lib.containsS [⟨#[50, 52, 53]⟩] t) (Rc.tagIs [50, 52, 53]) (fun f => Ix.tag_one ⟨#[50, 52, 53]⟩ f) ⟨#[97, 98, 110, 112]⟩ (by decide) _ (hG.below (Tx.step hB (by assumption))) (h.below (Tx.step hB (by assumption))) hM hV (fun w' tag hb' => ix_tag1_c tag bx [⟨#[50, 52, 53]⟩] w' (by first | exact hcap.below hb' | exact (hcap.below (Tx.newb _ _)).below hb' | exact (hcap.below ((Tx.newb _ _).drew)).below hb') (by simp))).mono ?_; rintro e ww ⟨v1, rfl, hown1, hb3⟩; have hbx := hb3; replace hown1 := Ix.own_lower hown1 (Below.size (B := W.heap.size) (by assumption)); obtain ⟨wp, hwp⟩ : ∃ wp, wp = ww := ⟨_, rfl⟩; subst hwp)
      | (go_split_ands; go_at_call 36; refine (ix_tags_c [⟨#[50, 52, 53]⟩] _ _ _ ?_).mono ?_; (first | exact (SLA.new (xs := [⟨#[50, 52, 53]⟩]) rfl rfl (by decide)) | exact (SLA.below (SLA.new (xs := [⟨#[50, 52, 53]⟩]) rfl rfl (by decide)) (Below.refl _ _).drew) | exact (SLA.new (xs := [⟨#[50, 52, 53]⟩]) (World.size_alloc _ _).symm rfl (by decide)) | exact (SLA.below (SLA.new (xs := [⟨#[50, 52, 53]⟩]) (World.size_alloc _ _).symm rfl (by decide)) (Below.refl _ _).drew) | exact (SLA.below (SLA.new (xs := [⟨#[50, 52, 53]⟩]) rfl rfl (by decide)) (Tx.newb _ _)) | exact (SLA.below (SLA.below (SLA.new (xs := [⟨#[50, 52, 53]⟩]) rfl rfl (by decide)) (Below.refl _ _).drew) (Tx.newb _ _)) | exact (SLA.below (SLA.new (xs := [⟨#[50, 52, 53]⟩]) (World.size_alloc _ _).symm rfl (by decide)) (Tx.newb _ _)) | exact (SLA.below (SLA.below (SLA.new (xs := [⟨#[50, 52, 53]⟩]) (World.size_alloc _ _).symm rfl (by decide)) (Below.refl _ _).drew) (Tx.newb _ _)) | exact (SLA.below (SLA.below (SLA.new (xs := [⟨#[50, 52, 53]⟩]) rfl rfl (by decide)) (Tx.newb _ _)) (Below.refl _ _).drew) | exact (SLA.below (SLA.below (SLA.below (SLA.new (xs := [⟨#[50, 52, 53]⟩]) rfl rfl (by decide)) (Below.refl _ _).drew) (Tx.newb _ _)) (Below.refl _ _).drew) | exact (SLA.below (SLA.below (SLA.new (xs := [⟨#[50, 52, 53]⟩]) (World.size_alloc _ _).symm rfl (by decide)) (Tx.newb _ _)) (Below.refl _ _).drew) | exact (SLA.below (SLA.below (SLA.below (SLA.new (xs := [⟨#[50, 52, 53]⟩]) (World.size_alloc _ _).symm rfl (by decide)) (Below.refl _ _).drew) (Tx.newb _ _)) (Below.refl _ _).drew)); rintro e ww ⟨bx, rfl, hcap, hb2⟩; have hbx := hb2))
  all_goals
    go_split_ands
    go_wp2
    go_ret
    exact ⟨_, rfl, Ix.own_lower (Ix.own_cells hown9) hbB, Tx.step hB (by assumption)⟩

theorem ix_Terms_14 (fs : List Rc.Fl) (a : Option Addr) (c : Nat) (id ver kind : Int) (lang : ByteArray) (k : Nat) (h1 : 1 ≤ k) (h4 : k ≤ 4) (w : World) (hG : G w) (h : Rc.FldA w a c fs) (hM : Ix.Mod fs) (hV : ∀ f ∈ fs, Rc.Gd f) :
    Calls Tryz.prog 12 #[.agg #[.int .i64 id, .int .i64 ver, .int .i64 kind, .string lang, .slice a fs.length c], .int .i64 k] w fun e w' => ∃ v, e = .returned v ∧ Ix.OwnT w' w.heap.size v (Ix.term fs k) ∧ Below w.heap.size w w' := by
  rcases (by omega : k = 1 ∨ k = 2 ∨ k = 3 ∨ k = 4) with rfl | rfl | rfl | rfl
  · exact ix_Terms_1 fs a c id ver kind lang w hG h hM hV
  · exact ix_Terms_2 fs a c id ver kind lang w hG h hM hV
  · exact ix_Terms_3 fs a c id ver kind lang w hG h hM hV
  · exact ix_Terms_4 fs a c id ver kind lang w hG h hM hV

set_option maxHeartbeats 3200000 in
theorem ix_Terms_0 (fs : List Rc.Fl) (a : Option Addr) (c : Nat) (id ver kind : Int) (lang : ByteArray) (w : World) (hG : G w) (h : Rc.FldA w a c fs) (hM : Ix.Mod fs) (hV : ∀ f ∈ fs, Rc.Gd f) :
    Calls Tryz.prog 12 #[.agg #[.int .i64 id, .int .i64 ver, .int .i64 kind, .string lang, .slice a fs.length c], .int .i64 0] w fun e w' => ∃ v, e = .returned v ∧ Ix.OwnT w' w.heap.size v (Ix.terms fs 0) ∧ Below w.heap.size w w' := by
  obtain ⟨W, hW⟩ : ∃ W, w.alloc (.cells #[.int .i64 id, .int .i64 ver, .int .i64 kind, .string lang, .slice a fs.length c] 24) = W := ⟨_, rfl⟩
  have hB : Below w.heap.size w W := by rw [← hW]; exact Tx.newb _ _
  have c0 : W.cell? ⟨w.heap.size, 0, none⟩ = some (.int .i64 id) := by rw [← hW]; simp
  have c1 : W.cell? ⟨w.heap.size, 1, none⟩ = some (.int .i64 ver) := by rw [← hW]; simp
  have c2 : W.cell? ⟨w.heap.size, 2, none⟩ = some (.int .i64 kind) := by rw [← hW]; simp
  have c3 : W.cell? ⟨w.heap.size, 3, none⟩ = some (.string lang) := by rw [← hW]; simp
  have c4 : W.cell? ⟨w.heap.size, 4, none⟩ = some (.slice a fs.length c) := by rw [← hW]; simp
  have hbB := hB.size
  have hWlt : w.heap.size < W.heap.size := by rw [← hW]; simp
  obtain ⟨i0, hi0, hz0, hz1, hz2⟩ := info_parts info_str
  have HI := Lib.hid hi0; clear hi0
  have HS := Lib.hid (h.below hB)
  have CT : Hid (∀ (k : Nat) w', 1 ≤ k → k ≤ 4 → Below W.heap.size W w' → Calls Tryz.prog 12 #[.agg #[.int .i64 id, .int .i64 ver, .int .i64 kind, .string lang, .slice a fs.length c], .int .i64 k] w' fun e w'' => ∃ v, e = .returned v ∧ Ix.OwnT w'' w'.heap.size v (Ix.term fs k) ∧ Below w'.heap.size w' w'') := Lib.hid (fun k w' h1 h4 hb => ix_Terms_14 fs a c id ver kind lang k h1 h4 w' (hG.below (Tx.step hB hb)) (HS.out.below hb) hM hV)
  have CB : Hid (∀ w', Below W.heap.size W w' → Calls Tryz.prog 35 #[.agg #[.int .i64 id, .int .i64 ver, .int .i64 kind, .string lang, .slice a fs.length c], .func (.func 40) #[] #[], .string ⟨#[97]⟩] w' fun e w'' => ∃ v, e = .returned v ∧ Ix.OwnT w'' w'.heap.size v (Ix.pick (Ix.begB 53) [97] fs) ∧ Below w'.heap.size w' w'') := Lib.hid (fun w' hb => picks_p5_c fs a c id ver kind lang (fun t => Lib.hasPrefix t.data.toList [53]) (Ix.begB 53) (fun f => Ix.beg_pre 53 f) ⟨#[97]⟩ (by decide) w' (hG.below (Tx.step hB hb)) (HS.out.below hb) hM hV (fun w' tag _ => ix_pre5_c tag w'))
  have HM := Lib.hid hM
  clear hG h hM hV
  go_enter Tryz.func12, Tryz.ntmps12
  go_wp2
  clear hW
  go_loopw [5, 6] (fun v i wr => ∃ (k : Nat), k ≤ 4 ∧ i = .int .i64 (k + 1) ∧ Ix.OwnT wr W.heap.size v (Ix.termsTo fs k) ∧ Below W.heap.size W wr) (fun _ i _ => 5 - (intOf i).toNat)
  case atStart => exact ⟨0, Nat.zero_le _, by go_num, World.ownsRow_nil _ _ _ _, Below.refl _ _⟩
  case round =>
    obtain ⟨k, hk, rfl, hown, hb⟩ := hrel
    have hbs := hb.size
    replace c0 := cell_later hb c0
    replace c1 := cell_later hb c1
    replace c2 := cell_later hb c2
    replace c3 := cell_later hb c3
    replace c4 := cell_later hb c4
    have hl := Ix.termsTo_len HM.out k
    by_cases hlt : k < 4
    · have hl2 := Ix.term_len HM.out (k + 1)
      have HT := Lib.hid (Ix.termsTo_succ fs k)
      have hk1 : ((k : Int) + 1) ≤ 4 := by omega
      have hcast : ((k + 1 : Nat) : Int) = (k : Int) + 1 := by omega
      have CK : Hid (∀ w', Below W.heap.size W w' → Calls Tryz.prog 12 #[.agg #[.int .i64 id, .int .i64 ver, .int .i64 kind, .string lang, .slice a fs.length c], .int .i64 ((k : Int) + 1)] w' fun e w'' => ∃ v, e = .returned v ∧ Ix.OwnT w'' w'.heap.size v (Ix.term fs (k + 1)) ∧ Below w'.heap.size w' w'') := Lib.hid (fun w' hb => by
        have h9 := CT.out (k + 1) w' (by omega) (by omega) hb
        rw [hcast] at h9
        exact h9)
      clear hcast
      go_wp2_with (first
        | (at_builtin; go_must (refine wpList_append_sl rfl _ _ 28 rfl W.heap.size 9 i0 _ 1 16 Tryz.underlying28 HI.out hz0 hz1 hz2 rfl (by decide) _ (Ix.termsTo fs k).length _ rfl own2 va (Ix.term fs (k + 1)).length vc ((Ix.term fs (k + 1)).map Tx.sv) rfl (by simp) (Ix.sla_none HSV.out) (Ix.sla_own_cells HSV.out) (Ix.sv_one _) (by unfold maxLen; omega) (by omega) (by omega) ?_); intro v7 w7 hown7 hg7 hnil7)
        | (go_at_call 12; ((with_reducible refine (CK.out _ hb).mono ?_); rintro e w2 ⟨v2, rfl, hown2, hb2⟩; obtain ⟨va, vc, rfl, hsv⟩ := Ix.own_sla hown2; have HSV := Lib.hid hsv; clear hsv hown2; have s2 := hb2.size; have own2 := own_below hown hb2)))
      have hb7 : Below W.heap.size W w7 := (Tx.step hb hb2).grown hg7 (by omega) (fun i hi => (own2.lt i hi).1)
      go_roundw
      case rel => exact ⟨k + 1, by omega, by go_num, by rw [HT.out]; exact Ix.own_cells hown7, hb7⟩
      case measure => simp [intOf]; omega
    · obtain rfl : k = 4 := by omega
      have hl2 := Ix.pick_len (p := Ix.begB 53) (codes := [97]) HM.out
      have HT := Lib.hid (Ix.terms_zero fs)
      clear hlt hk
      go_wp2_with (first
        | (at_builtin; go_must (refine wpList_append_sl rfl _ _ 28 rfl W.heap.size 9 i0 _ 1 16 Tryz.underlying28 HI.out hz0 hz1 hz2 rfl (by decide) _ (Ix.termsTo fs 4).length _ rfl own2 va (Ix.pick (Ix.begB 53) [97] fs).length vc ((Ix.pick (Ix.begB 53) [97] fs).map Tx.sv) rfl (by simp) (Ix.sla_none HSV.out) (Ix.sla_own_cells HSV.out) (Ix.sv_one _) (by unfold maxLen; omega) (by omega) (by omega) ?_); intro v7 w7 hown7 hg7 hnil7)
        | (go_at_call 35; ((with_reducible refine (CB.out _ hb).mono ?_); rintro e w2 ⟨v2, rfl, hown2, hb2⟩; obtain ⟨va, vc, rfl, hsv⟩ := Ix.own_sla hown2; have HSV := Lib.hid hsv; clear hsv hown2; have s2 := hb2.size; have own2 := own_below hown hb2)))
      have hb7 : Below W.heap.size W w7 := (Tx.step hb hb2).grown hg7 (by omega) (fun i hi => (own2.lt i hi).1)
      go_ret
      exact ⟨_, rfl, by rw [HT.out]; exact Ix.own_lower (Ix.own_cells hown7) hbB, Tx.step hB hb7⟩

set_option maxHeartbeats 1600000 in
theorem ix_Terms_x (fs : List Rc.Fl) (a : Option Addr) (c : Nat) (id ver kind : Int) (lang : ByteArray) (x : Int) (hx : x < 0 ∨ 4 < x) (w : World) :
    Calls Tryz.prog 12 #[.agg #[.int .i64 id, .int .i64 ver, .int .i64 kind, .string lang, .slice a fs.length c], .int .i64 x] w fun e w' => ∃ v, e = .returned v ∧ Ix.OwnT w' w.heap.size v [] ∧ Below w.heap.size w w' := by
  obtain ⟨W, hW⟩ : ∃ W, w.alloc (.cells #[.int .i64 id, .int .i64 ver, .int .i64 kind, .string lang, .slice a fs.length c] 24) = W := ⟨_, rfl⟩
  have hB : Below w.heap.size w W := by rw [← hW]; exact Tx.newb _ _
  have c0 : W.cell? ⟨w.heap.size, 0, none⟩ = some (.int .i64 id) := by rw [← hW]; simp
  have c1 : W.cell? ⟨w.heap.size, 1, none⟩ = some (.int .i64 ver) := by rw [← hW]; simp
  have c2 : W.cell? ⟨w.heap.size, 2, none⟩ = some (.int .i64 kind) := by rw [← hW]; simp
  have c3 : W.cell? ⟨w.heap.size, 3, none⟩ = some (.string lang) := by rw [← hW]; simp
  have c4 : W.cell? ⟨w.heap.size, 4, none⟩ = some (.slice a fs.length c) := by rw [← hW]; simp
  have hbB := hB.size
  have hWlt : w.heap.size < W.heap.size := by rw [← hW]; simp
  have t0 : (x == 0) = false := by simp; omega
  have t1 : (x == 1) = false := by simp; omega
  have t2 : (x == 2) = false := by simp; omega
  have t3 : (x == 3) = false := by simp; omega
  have t4 : (x == 4) = false := by simp; omega
  clear hx
  go_enter Tryz.func12, Tryz.ntmps12
  go_wp2
  go_ret
  exact ⟨_, rfl, World.ownsRow_nil _ _ _ _, hB⟩

theorem ix_Terms_c (fs : List Rc.Fl) (a : Option Addr) (c : Nat) (id ver kind : Int) (lang : ByteArray) (x : Int) (w : World) (hG : G w) (h : Rc.FldA w a c fs) (hM : Ix.Mod fs) (hV : ∀ f ∈ fs, Rc.Gd f) :
    Calls Tryz.prog 12 #[.agg #[.int .i64 id, .int .i64 ver, .int .i64 kind, .string lang, .slice a fs.length c], .int .i64 x] w fun e w' => ∃ v, e = .returned v ∧ Ix.OwnT w' w.heap.size v (Ix.terms fs x) ∧ Below w.heap.size w w' := by
  by_cases h0 : x = 0
  · subst h0
    exact ix_Terms_0 fs a c id ver kind lang w hG h hM hV
  · unfold Ix.terms
    rw [if_neg h0]
    by_cases h4 : 1 ≤ x ∧ x ≤ 4
    · rw [if_pos h4]
      obtain ⟨k, rfl⟩ : ∃ k : Nat, x = k := ⟨x.toNat, by omega⟩
      exact ix_Terms_14 fs a c id ver kind lang k (by omega) (by omega) w hG h hM hV
    · rw [if_neg h4]
      exact ix_Terms_x fs a c id ver kind lang x (by omega) w

end Go.Proofs.YtcjalpegffldaaaGreatDoor

/- Plain: the terms of valid records are words that are not empty and not long. -/
namespace Go.Proofs.YtcjalpegffldaaaGreatDoor
namespace Tx
open Go.Lib
theorem lens_mem : ∀ {l : List (List UInt8)} {x : List UInt8}, x ∈ l → x.length ≤ lens l
  | y :: r, x, h => by
    rcases List.mem_cons.1 h with rfl | h
    · simp [lens]
    · have := lens_mem h
      simp [lens] at this ⊢
      omega
theorem words_good {l : List UInt8} (hv : valid l = true) : (∀ w ∈ words l, valid w = true ∧ w ≠ [] ∧ w.length ≤ 2 * l.length) ∧ (words l).length ≤ 2 * l.length := by
  have h1 := fieldsT_good sepW (foldS_valid hv)
  have h2 := foldS_len hv
  unfold words
  refine ⟨fun w hw => ⟨(h1.1 w hw).1, (h1.1 w hw).2, ?_⟩, by omega⟩
  have := lens_mem hw
  omega
end Tx
namespace Ix
open Rc
def Wok (x : By) : Prop := x ≠ [] ∧ x.length ≤ 200000
theorem wordsF_ok {f : Fl} (h : Gd f) (codes : By) : ∀ x ∈ wordsF f codes, Wok x := by
  intro x hx
  unfold wordsF at hx
  obtain ⟨s, hs, hx⟩ := List.mem_flatMap.1 hx
  unfold allV at hs
  obtain ⟨y, hy, rfl⟩ := List.mem_map.1 hs
  have hg := h.2 y (List.mem_filter.1 hy).1
  have h1 := (Tx.words_good hg.2).1 x hx
  have h2 : y.2.data.toList.length = y.2.size := by rw [Lib.size_eq]
  exact ⟨h1.2.1, by have := h1.2.2; omega⟩
theorem pick_ok {p : Fl → Bool} {codes : By} {fs : List Fl} (h : ∀ f ∈ fs, Gd f) : ∀ x ∈ pick p codes fs, Wok x := by
  intro x hx
  unfold pick at hx
  obtain ⟨f, hf, hx⟩ := List.mem_flatMap.1 hx
  exact wordsF_ok (h f (List.mem_filter.1 hf).1) codes x hx
theorem nums_ok {fs : List Fl} (h : ∀ f ∈ fs, Gd f) : ∀ x ∈ nums fs, Wok x := by
  intro x hx
  unfold nums at hx
  obtain ⟨f, hf, hx⟩ := List.mem_flatMap.1 hx
  unfold numF at hx
  rw [List.mem_filter] at hx
  obtain ⟨s, hs, rfl⟩ := List.mem_map.1 hx.1
  unfold allV at hs
  obtain ⟨y, hy, rfl⟩ := List.mem_map.1 hs
  have hg := (h f (List.mem_filter.1 hf).1).2 y (List.mem_filter.1 hy).1
  have h2 : y.2.data.toList.length = y.2.size := by rw [Lib.size_eq]
  have h3 := plainB_len _ y.2.data.toList (Nat.le_refl _)
  exact ⟨by simpa using hx.2, by omega⟩
theorem term_ok {fs : List Fl} (h : ∀ f ∈ fs, Gd f) : ∀ k, ∀ x ∈ term fs k, Wok x
  | 0, x, hx => by cases hx
  | 1, x, hx => by
    rcases List.mem_append.1 hx with hx | hx
    · exact pick_ok h x hx
    · exact pick_ok h x hx
  | 2, x, hx => pick_ok h x hx
  | 3, x, hx => pick_ok h x hx
  | 4, x, hx => nums_ok h x hx
  | _ + 5, x, hx => by cases hx
theorem termsTo_ok {fs : List Fl} (h : ∀ f ∈ fs, Gd f) : ∀ k, ∀ x ∈ termsTo fs k, Wok x
  | 0, x, hx => by cases hx
  | k + 1, x, hx => by
    rw [termsTo_succ] at hx
    rcases List.mem_append.1 hx with hx | hx
    · exact termsTo_ok h k x hx
    · exact term_ok h (k + 1) x hx
theorem terms_ok {fs : List Fl} (h : ∀ f ∈ fs, Gd f) (f : Int) : ∀ x ∈ terms fs f, Wok x := by
  intro x hx
  by_cases h0 : f = 0
  · rw [h0, terms_zero] at hx
    rcases List.mem_append.1 hx with hx | hx
    · exact termsTo_ok h 4 x hx
    · exact pick_ok h x hx
  · unfold terms at hx
    rw [if_neg h0] at hx
    split at hx
    · exact term_ok h _ x hx
    · cases hx
end Ix
end Go.Proofs.YtcjalpegffldaaaGreatDoor

/- Plain: records as in small are moderate and good; places of posts that were built. -/
namespace Go.Proofs.YtcjalpegffldaaaGreatDoor
set_option maxRecDepth 100000
namespace Ix
open Rc
theorem allV_words {codes : By} : ∀ {l : List (UInt8 × ByteArray)}, (∀ x ∈ l, Tx.valid x.2.data.toList = true) → ((allV l codes).flatMap fun s => Tx.words s.data.toList).length ≤ 2 * vsF l
  | [], _ => by simp [allV]
  | x :: l, h => by
    have ih := allV_words (codes := codes) (l := l) (fun y hy => h y (List.mem_cons_of_mem _ hy))
    have h1 := (Tx.words_good (h x (List.mem_cons_self ..))).2
    have h2 : x.2.data.toList.length = x.2.size := (Lib.size_eq x.2).symm
    unfold allV at ih ⊢
    unfold vsF at ih ⊢
    rw [List.map_cons, List.sum_cons]
    by_cases hc : hasCode codes x.1 = true
    · rw [List.filter_cons_of_pos (by simpa using hc), List.map_cons, List.flatMap_cons, List.length_append]
      omega
    · rw [List.filter_cons_of_neg (by simpa using hc)]
      omega
theorem small_of {r : Rd} (h : smallB r = true) : r.fields.length ≤ 10 ∧ vs r.fields ≤ 300 ∧ recE r = 0 := by
  unfold smallB at h
  simpa [and_assoc] using h
theorem small_okf {r : Rd} (h : smallB r = true) : ∀ f ∈ r.fields, Okf f := (recE_zero (small_of h).2.2).2.2.2.2.2.2
theorem small_gd {r : Rd} (h : smallB r = true) : ∀ f ∈ r.fields, Gd f := fun f hf => (small_okf h f hf).gd
theorem small_mod {r : Rd} (h : smallB r = true) : Mod r.fields := by
  obtain ⟨h1, h2, _⟩ := small_of h
  have hg := small_gd h
  refine ⟨by omega, fun f hf => (hg f hf).1, fun f hf x hx => ((hg f hf).2 x hx).1, fun f hf codes => ?_⟩
  have h3 := allV_words (codes := codes) (l := f.subs) (fun x hx => ((hg f hf).2 x hx).2)
  have h4 := le_sum (fun f : Fl => vsF f.subs) hf
  unfold wordsF
  unfold vs at h2
  omega
theorem small_id {r : Rd} (h : smallB r = true) : 0 ≤ r.id ∧ r.id ≤ 9999 := (recE_zero (small_of h).2.2).1
theorem dogs_mod : Mod dogsR.fields := by
  refine ⟨by decide, fun f hf => (dogs_gd f hf).1, fun f hf x hx => ((dogs_gd f hf).2 x hx).1, fun f hf codes => ?_⟩
  have h3 := allV_words (codes := codes) (l := f.subs) (fun x hx => ((dogs_gd f hf).2 x hx).2)
  have h4 := le_sum (fun f : Fl => vsF f.subs) hf
  have h5 : (dogsR.fields.map fun f => vsF f.subs).sum ≤ 300 := by decide +kernel
  unfold wordsF
  omega
theorem few_of {rs : List Rd} (h : fewB rs = true) : rs.length ≤ 5 ∧ ∀ r ∈ rs, smallB r = true := by
  unfold fewB at h
  rw [Bool.and_eq_true, decide_eq_true_eq, List.all_eq_true] at h
  exact h
theorem raw_of {T : List PT} (h : rawB T = true) : T.length ≤ 40 ∧ ∀ t ∈ T, t.1.word.length ≤ 100 ∧ t.1.at_.length ≤ 40 := by
  unfold rawB at h
  rw [Bool.and_eq_true, decide_eq_true_eq, List.all_eq_true] at h
  refine ⟨h.1, fun t ht => ?_⟩
  have := h.2 t ht
  rw [Bool.and_eq_true, decide_eq_true_eq, decide_eq_true_eq] at this
  exact this
/-- Places that ascend from below 0 on are 0 or more. -/
theorem ascF_pos : ∀ {l : List Int} {m : Int}, ascF m l = true → ∀ n ∈ l, m < n
  | [], _, _, n, hn => by cases hn
  | x :: l, m, h, n, hn => by
    unfold ascF at h
    rw [Bool.and_eq_true, decide_eq_true_eq] at h
    rcases List.mem_cons.1 hn with rfl | hn
    · exact h.1
    · have := ascF_pos h.2 n hn; omega
theorem right_at {x : List Post} (h : right x = true) : ∀ p ∈ x, ∀ n ∈ p.at_, 0 ≤ n := fun p hp n hn => by
  have h1 := rightF_ok x none h p hp
  unfold okP at h1
  simp only [Bool.and_eq_true] at h1
  have := ascF_pos h1.2 n hn
  omega
theorem build_mem {rs : List Rd} {p : Post} (h : p ∈ build rs) : ∃ r ∈ rs, 1 ≤ r.id ∧ p ∈ posts r := by
  unfold build at h
  rw [bld_eq] at h
  have h2 := (fold_perm _ _).mem_iff.1 h
  rw [List.nil_append] at h2
  obtain ⟨r, hr, hp⟩ := List.mem_flatMap.1 h2
  exact ⟨r, List.mem_of_mem_take (chs_mem hr).2, (chs_mem hr).1, hp⟩
theorem places_lt {t : List By} {x : By} {n : Int} (h : n ∈ places t x) : 0 ≤ n ∧ n < (t.length : Int) := by
  obtain ⟨j, hj, hx⟩ := placesF_mem.1 h
  have := (List.getElem?_eq_some_iff.1 hx).1
  omega
theorem build_facts {rs : List Rd} (hM : ∀ r ∈ rs, Mod r.fields) (hV : ∀ r ∈ rs, ∀ f ∈ r.fields, Gd f) (hI : ∀ r ∈ rs, r.id ≤ 9999) : Asc (build rs) ∧ ∀ p ∈ build rs, (∀ n ∈ p.at_, 0 ≤ n ∧ n ≤ 9223372036854775807) ∧ (-9223372036854775808 ≤ p.id ∧ p.id ≤ 9223372036854775807) ∧ p.word.length ≤ 1000000 := by
  refine ⟨bld_asc rs _, fun p hp => ?_⟩
  obtain ⟨r, hr, h1, hp⟩ := build_mem hp
  obtain ⟨_, _, h4, h5, h6⟩ := posts_mem.1 hp
  refine ⟨fun n hn => ?_, ?_, ?_⟩
  · rw [h6] at hn
    have := places_lt hn
    have := terms_len (hM r hr) p.fld
    omega
  · have := hI r hr
    omega
  · exact Nat.le_trans (terms_ok (hV r hr) _ _ h5).2 (by decide)
end Ix
end Go.Proofs.YtcjalpegffldaaaGreatDoor

/- The program's order of posts, and what sorting posts by it comes to: what the calls return. -/
namespace Go.Proofs.YtcjalpegffldaaaGreatDoor
open Go.RowKit
open Go.Sort (grow)
set_option maxRecDepth 100000

namespace Ix
/-- The three ways of a comparison. -/
def cmpB (x y : By) : Int := if x < y then -1 else if y < x then 1 else 0
def orI (a b c : Int) : Int := if a ≠ 0 then a else if b ≠ 0 then b else c
def cmpP (p q : Post) : Int := orI (Lib.compareInt p.fld q.fld) (cmpB p.word q.word) (Lib.compareInt p.id q.id)
theorem cmpP_lt (p q : Post) : decide (cmpP p q < 0) = ltK p q := by
  rw [Bool.eq_iff_iff, decide_eq_true_eq, ltK_iff]
  unfold cmpP orI Lib.compareInt cmpB
  by_cases h1 : p.fld < q.fld
  · simp [h1]
  · by_cases h2 : p.fld > q.fld
    · have h3 : ¬ p.fld = q.fld := by omega
      simp [h1, h2, h3]
    · have h3 : p.fld = q.fld := by omega
      by_cases h4 : p.word < q.word
      · simp [h3, h4]
      · by_cases h5 : q.word < p.word
        · have h6 : ¬ p.word = q.word := fun e => by rw [e] at h5; exact List.lt_irrefl _ h5
          simp [h3, h4, h5, h6]
        · have h6 : p.word = q.word := by
            by_cases e : p.word = q.word
            · exact e
            · exact absurd (ltB_tri _ _ h4 e) h5
          by_cases h7 : p.id < q.id
          · simp [h3, h6, h7, List.lt_irrefl]
          · by_cases h8 : p.id > q.id
            · simp [h3, h6, h7, h8, List.lt_irrefl]
            · simp [h3, h6, h7, h8, List.lt_irrefl]
theorem grow_three {w W wq : World} {o1 o2 : Obj} (h : (w.alloc o1).alloc o2 = W) (h2 : W.drew = wq) (o : Obj) : ∃ n os, wq.alloc o = grow (w.drewN n) os := by
  refine ⟨1, #[o1] ++ #[o2] ++ #[o], ?_⟩
  rw [← h2, ← h, Go.Sort.alloc_eq_grow, Go.Sort.alloc_eq_grow, Go.Sort.alloc_eq_grow, ← Go.Sort.grow_grow, ← Go.Sort.grow_grow]
  rfl
end Ix

set_option maxHeartbeats 800000 in
theorem isNaN_str_c (x : ByteArray) (w : World) : Calls Tryz.prog 118 #[.string x] w fun e w' => e = .returned (.bool false) ∧ w' = w := by
  go_enter Tryz.func118, Tryz.ntmps118
  go_wp2
  go_ret
  exact ⟨rfl, rfl⟩
set_option maxHeartbeats 800000 in
theorem cmp_str_c (x y : Ix.By) (w : World) : Calls Tryz.prog 80 #[.string ⟨x.toArray⟩, .string ⟨y.toArray⟩] w fun e w' => e = .returned (.int .i64 (Ix.cmpB x y)) ∧ w' = w := by
  have h1 : Op.bytesLess x y = decide (x < y) := Go.Proofs.bytesLess_eq x y
  have h2 : Op.bytesLess y x = decide (y < x) := Go.Proofs.bytesLess_eq y x
  by_cases g1 : x < y
  · have HR : Hid (Ix.cmpB x y = -1) := Lib.hid (if_pos g1)
    rw [decide_eq_true g1] at h1
    clear g1
    go_enter Tryz.func80, Tryz.ntmps80
    go_wp2_with (go_at_call 118; refine (isNaN_str_c _ _).mono ?_; rintro e w' ⟨rfl, rfl⟩)
    go_ret
    exact ⟨by rw [HR.out]; rfl, rfl⟩
  · rw [decide_eq_false g1] at h1
    by_cases g2 : y < x
    · have HR : Hid (Ix.cmpB x y = 1) := Lib.hid (by unfold Ix.cmpB; rw [if_neg g1, if_pos g2])
      rw [decide_eq_true g2] at h2
      have h3 : (x == y) = false := by rw [beq_eq_false_iff_ne]; intro e; rw [e] at g2; exact List.lt_irrefl _ g2
      clear g1 g2
      go_enter Tryz.func80, Tryz.ntmps80
      go_wp2_with (go_at_call 118; refine (isNaN_str_c _ _).mono ?_; rintro e w' ⟨rfl, rfl⟩)
      go_ret
      exact ⟨by rw [HR.out]; rfl, rfl⟩
    · have HR : Hid (Ix.cmpB x y = 0) := Lib.hid (by unfold Ix.cmpB; rw [if_neg g1, if_neg g2])
      rw [decide_eq_false g2] at h2
      have h3 : (x == y) = true := by
        rw [beq_iff_eq]
        by_cases e : x = y
        · exact e
        · exact absurd (Ix.ltB_tri _ _ g1 e) g2
      clear g1 g2
      go_enter Tryz.func80, Tryz.ntmps80
      go_wp2_with (go_at_call 118; refine (isNaN_str_c _ _).mono ?_; rintro e w' ⟨rfl, rfl⟩)
      go_ret
      exact ⟨by rw [HR.out]; rfl, rfl⟩
set_option maxHeartbeats 800000 in
theorem cmp_or_c (a b c : Int) (X : Nat) (w : World) (c0 : w.cell? ⟨X, 0, none⟩ = some (.int .i64 a)) (c1 : w.cell? ⟨X, 1, none⟩ = some (.int .i64 b)) (c2 : w.cell? ⟨X, 2, none⟩ = some (.int .i64 c)) :
    Calls Tryz.prog 78 #[.slice (some ⟨X, 0, none⟩) 3 3] w fun e w' => e = .returned (.int .i64 (Ix.orI a b c)) ∧ w' = w := by
  go_enter Tryz.func78, Tryz.ntmps78
  go_wp2
  go_loop [8] (fun i => ∃ (k : Nat), k ≤ 3 ∧ i = .int .i64 k ∧ (1 ≤ k → a = 0) ∧ (2 ≤ k → b = 0) ∧ (3 ≤ k → c = 0)) (fun i => 3 - (intOf i).toNat)
  case atStart => exact ⟨0, by omega, by go_num, fun h => by omega, fun h => by omega, fun h => by omega⟩
  case round =>
    obtain ⟨k, hk, rfl, ha, hb, hc⟩ := hrel
    rcases (by omega : k = 0 ∨ k = 1 ∨ k = 2 ∨ k = 3) with rfl | rfl | rfl | rfl
    · cases hq : (a != 0) with
      | true =>
        have HR : Hid (Ix.orI a b c = a) := Lib.hid (if_pos (by simpa using hq))
        clear ha hb hc
        go_wp2
        go_ret
        exact ⟨by rw [HR.out]; rfl, rfl⟩
      | false =>
        have ha0 := Lib.hid (show a = 0 by simpa using hq)
        clear ha hb hc
        go_wp2
        go_round
        case rel => exact ⟨1, by omega, by go_num, fun _ => ha0.out, fun h => by omega, fun h => by omega⟩
        case measure => simp [intOf]
    · have ha0 := Lib.hid (ha (by omega))
      clear ha hb hc
      cases hq : (b != 0) with
      | true =>
        have HR : Hid (Ix.orI a b c = b) := Lib.hid (by unfold Ix.orI; rw [if_neg (by rw [ha0.out]; simp), if_pos (by simpa using hq)])
        go_wp2
        go_ret
        exact ⟨by rw [HR.out]; rfl, rfl⟩
      | false =>
        have hb0 := Lib.hid (show b = 0 by simpa using hq)
        go_wp2
        go_round
        case rel => exact ⟨2, by omega, by go_num, fun _ => ha0.out, fun _ => hb0.out, fun h => by omega⟩
        case measure => simp [intOf]
    · have ha0 := Lib.hid (ha (by omega))
      have hb0 := Lib.hid (hb (by omega))
      clear ha hb hc
      have HR : Hid (Ix.orI a b c = c) := Lib.hid (by unfold Ix.orI; rw [if_neg (by rw [ha0.out]; simp), if_neg (by rw [hb0.out]; simp)])
      cases hq : (c != 0) with
      | true =>
        go_wp2
        go_ret
        exact ⟨by rw [HR.out]; rfl, rfl⟩
      | false =>
        have hc0 := Lib.hid (show c = 0 by simpa using hq)
        go_wp2
        go_round
        case rel => exact ⟨3, by omega, by go_num, fun _ => ha0.out, fun _ => hb0.out, fun _ => hc0.out⟩
        case measure => simp [intOf]
    · have ha0 := Lib.hid (ha (by omega))
      have hb0 := Lib.hid (hb (by omega))
      have hc0 := Lib.hid (hc (by omega))
      clear ha hb hc
      have HR : Hid (Ix.orI a b c = 0) := Lib.hid (by unfold Ix.orI; rw [ha0.out, hb0.out, hc0.out]; rfl)
      go_wp2
      go_ret
      exact ⟨by rw [HR.out]; rfl, rfl⟩

set_option maxHeartbeats 1600000 in
theorem ix_order_c (p q : Ix.PT) (w : World) : Calls Tryz.prog 49 #[.agg #[.int .i64 p.1.fld, .string ⟨p.1.word.toArray⟩, .int .i64 p.1.id, .slice p.2.1 p.1.at_.length p.2.2], .agg #[.int .i64 q.1.fld, .string ⟨q.1.word.toArray⟩, .int .i64 q.1.id, .slice q.2.1 q.1.at_.length q.2.2]] w fun e w' => e = .returned (.int .i64 (Ix.cmpP p.1 q.1)) ∧ ∃ n os, w' = grow (w.drewN n) os := by
  obtain ⟨W, hW⟩ : ∃ W, (w.alloc (.cells #[.int .i64 p.1.fld, .string ⟨p.1.word.toArray⟩, .int .i64 p.1.id, .slice p.2.1 p.1.at_.length p.2.2] 52)).alloc (.cells #[.int .i64 q.1.fld, .string ⟨q.1.word.toArray⟩, .int .i64 q.1.id, .slice q.2.1 q.1.at_.length q.2.2] 52) = W := ⟨_, rfl⟩
  have HW := Lib.hid hW
  have c0 : W.cell? ⟨w.heap.size, 0, none⟩ = some (.int .i64 p.1.fld) := by rw [← hW]; simp
  have c1 : W.cell? ⟨w.heap.size, 1, none⟩ = some (.string ⟨p.1.word.toArray⟩) := by rw [← hW]; simp
  have c2 : W.cell? ⟨w.heap.size, 2, none⟩ = some (.int .i64 p.1.id) := by rw [← hW]; simp
  have d0 : W.cell? ⟨w.heap.size + 1, 0, none⟩ = some (.int .i64 q.1.fld) := by rw [← hW]; simp
  have d1 : W.cell? ⟨w.heap.size + 1, 1, none⟩ = some (.string ⟨q.1.word.toArray⟩) := by rw [← hW]; simp
  have d2 : W.cell? ⟨w.heap.size + 1, 2, none⟩ = some (.int .i64 q.1.id) := by rw [← hW]; simp
  go_enter Tryz.func49, Tryz.ntmps49
  go_wp2
  clear hW
  refine wp_region_still_tail 15 (by kernel_rfl) (by kernel_rfl) ?_
  simp only [List.take_succ_cons, List.take_zero, List.drop_succ_cons, List.drop_zero]
  repeat still_step
  still_call (Tryz.cmp_Compare_int p.1.fld q.1.fld _)
  repeat still_step
  still_call (cmp_str_c p.1.word q.1.word _)
  repeat still_step
  still_call (Tryz.cmp_Compare_int p.1.id q.1.id _)
  try refine wpStill_nil ?_
  change wpList _ _ _ _ _ W.drew
  obtain ⟨wq, hwq⟩ : ∃ wq, W.drew = wq := ⟨_, rfl⟩
  have HQ := Lib.hid hwq
  rw [hwq]
  clear hwq
  go_wp2_with (go_at_call 78; refine (cmp_or_c (Lib.compareInt p.1.fld q.1.fld) (Ix.cmpB p.1.word q.1.word) (Lib.compareInt p.1.id q.1.id) wq.heap.size _ (by simp) (by simp) (by simp)).mono ?_; rintro e w' ⟨rfl, rfl⟩)
  go_ret
  exact ⟨rfl, Ix.grow_three HW.out HQ.out _⟩

theorem ix_order_enters : ∀ args w, (callFunc 49 args).run Tryz.prog w = .ok (.enter 49 args) w := enters_of Tryz.func49 (by kernel_rfl) rfl
instance : Inhabited Ix.PT := ⟨(⟨0, [], 0, []⟩, none, 0)⟩
namespace Ix
open Go.Sort (putRow putCells mapBlock onCells flatK)
theorem ltK_congr {x y z : Post} (h : sameK x y) : ltK x z = ltK y z := by
  unfold ltK
  rw [h.1, h.2.1, h.2.2]
theorem swoP : Go.Sort.SWO (fun x y : PT => ltK x.1 y.1) where
  irrefl x := ltK_irrefl x.1
  trans x y z h1 h2 := ltK_trans h1 h2
  ntrans x y z h1 h2 := by
    by_cases hs : sameK x.1 y.1
    · rw [ltK_congr hs]; exact h2
    · have h3 := ltK_tri h1 hs
      rw [Bool.eq_false_iff]
      intro h4
      have h5 := ltK_trans h3 h4
      rw [h2] at h5
      cases h5
theorem flat_list (d : Array PT) : (flatK encP 4 d).toList = d.toList.flatMap encP := by
  apply List.ext_getElem?
  intro t
  rcases Nat.lt_or_ge t (d.size * 4) with h | h
  · have hk : t / 4 < d.toList.length := by rw [Array.length_toList]; omega
    obtain ⟨x, hx⟩ : ∃ x, d.toList[t / 4]? = some x := ⟨_, List.getElem?_eq_getElem hk⟩
    have h1 := Br.flat_at encP 4 encP_len d.toList (t / 4) (t % 4) x hx (by omega)
    rw [show t / 4 * 4 + t % 4 = t by omega] at h1
    rw [h1, Array.getElem?_toList, Array.getElem?_eq_getElem (by simpa using h), ← getElem!_pos (flatK encP 4 d) t (by simpa using h), Go.Sort.get_flatK _ _ _ _ h]
    have hx2 : d[t / 4]! = x := by
      rw [Array.getElem?_toList] at hx
      rw [getElem!_def, hx]
    rw [hx2]
    have h3 : t % 4 < (encP x).length := by rw [encP_len]; omega
    rw [getElem!_pos (encP x) (t % 4) h3, List.getElem?_eq_getElem h3]
  · rw [List.getElem?_eq_none (by rw [Array.length_toList, Go.Sort.size_flatK]; exact h), List.getElem?_eq_none (by rw [Br.flat_len encP 4 encP_len, Array.length_toList]; exact h)]
theorem holds_of_rows {w : World} {g : Nat} {cur : Array Value} {e : TypeId} {T : List PT} (hb : w.heap[g]? = some (.cells cur e (0, 0))) (ht : cur.toList.take (T.length * 4) = T.flatMap encP) : Go.Sort.HoldsK encP 4 w g 0 T.toArray := by
  intro j hj
  have hj' : j < T.length * 4 := by simpa using hj
  refine ⟨?_, by simp [World.frozen?, hb]⟩
  have h1 : (cur.toList.take (T.length * 4))[j]? = (T.flatMap encP)[j]? := by rw [ht]
  rw [List.getElem?_take_of_lt hj'] at h1
  simp only [World.cell?, hb, Nat.zero_add]
  have h2 := flat_list T.toArray
  simp only [] at h2
  rw [← h2, Array.getElem?_toList, Array.getElem?_toList] at h1
  rw [h1, Array.getElem?_eq_getElem hj, getElem!_pos _ j hj]
  rfl
theorem heap_sortedP {w : World} {g n : Nat} {os : Array Obj} {cur : Array Value} {e : TypeId} {fr : Nat × Nat} (F : Array Value) (hb : w.heap[g]? = some (.cells cur e fr)) :
    (grow (putRow id (Go.Sort.ahead w n) g 0 F) os).heap[g]? = some (.cells (putCells id 0 F cur) e fr) := by
  have hg : g < w.heap.size := (Array.getElem?_eq_some_iff.1 hb).1
  rw [Go.Sort.heap_grow_old _ _ (by simpa using hg)]
  simp [putRow, mapBlock, Go.Sort.ahead, Array.getElem?_modify, hb, onCells]
theorem grownBy_sortedP {w : World} {g n : Nat} {os : Array Obj} (F : Array Value) : w.grownBy (grow (putRow id (Go.Sort.ahead w n) g 0 F) os) (some g) := by
  refine ⟨rfl, rfl, rfl, by simp, fun k hk hne => ?_⟩
  rw [Go.Sort.heap_grow_old _ _ (by simpa using hk)]
  have : g ≠ k := fun e => hne (by rw [e])
  simp [putRow, mapBlock, Go.Sort.ahead, Array.getElem?_modify, this]
theorem take_putCellsP (cur : Array Value) (F : Array Value) (h : F.size ≤ cur.size) : (putCells id 0 F cur).toList.take F.size = F.toList := by
  apply List.ext_getElem?
  intro j
  by_cases hj : j < F.size
  · rw [List.getElem?_take_of_lt hj, Array.getElem?_toList]
    simp [putCells, hj, show j < cur.size by omega]
  · rw [List.getElem?_take_eq_none (by omega), List.getElem?_eq_none (by simp; omega)]
theorem ownsRow_sortedP {w : World} {base g cap n m : Nat} {e : TypeId} {os : Array Obj} {cur : Array Value} {F : Array Value} (hl : F.size = m * 4) (hbase : base ≤ g) (hb : w.heap[g]? = some (.cells cur e (0, 0)))
    (h1 : m ≤ cap) (h2 : cap ≤ maxLen) (h3 : cur.size = cap * 4) :
    (grow (putRow id (Go.Sort.ahead w n) g 0 F) os).ownsRow base e 4 (.slice (some ⟨g, 0, none⟩) m cap) m F.toList :=
  ⟨by simp [hl], .inr ⟨g, cap, _, rfl, hbase, heap_sortedP _ hb, h1, h2, by simp [putCells, h3], by rw [← hl]; exact take_putCellsP cur F (by omega)⟩⟩
end Ix

theorem ix_sort_c (blk cap : Nat) (d : Array Ix.PT) (w : World) (hH : Go.Sort.HoldsK Ix.encP 4 w blk 0 d) (hblk : blk < w.heap.size) (hsz : d.size < 1000000000) :
    Calls Tryz.prog 48 #[.slice (some ⟨blk, 0, none⟩) d.size cap, .func (.func 49) #[] #[]] w fun e w' => e = .returned (.tuple #[]) ∧ ∃ d' n os, Go.Sort.PermIn 0 d.size d d' ∧ Go.Sort.SortedIn (fun x y : Ix.PT => Ix.ltK x.1 y.1) 0 d.size d' ∧ w' = sortWorldK Ix.encP 4 w blk 0 n d' os := by
  have hlt : ltOf (fun x y : Ix.PT => Ix.cmpP x.1 y.1) = fun x y : Ix.PT => Ix.ltK x.1 y.1 := by funext x y; exact Ix.cmpP_lt x.1 y.1
  have h := AnyQ.slices_SortFunc Tryz.sortPost 4 Tryz.isAgg52 Tryz.sizeOf52 Ix.encP Ix.encP_len Ix.p_one (fun x y : Ix.PT => Ix.cmpP x.1 y.1) (by rw [hlt]; exact Ix.swoP) 49 #[] blk 0 cap d w ix_order_enters (fun _ _ _ _ x y => ix_order_c x y _) hH hblk (by omega)
  rw [hlt] at h
  exact h

theorem ix_sorted_c {v : Value} {T : List Ix.PT} {B : Nat} {w : World} (h : Ix.OwnP w B v T) (hl : T.length < 1000000000) :
    Calls Tryz.prog 48 #[v, .func (.func 49) #[] #[]] w fun e w' => e = .returned (.tuple #[]) ∧ ∃ S : List Ix.PT, S.Perm T ∧ (S.Pairwise fun x y => Ix.ltK y.1 x.1 = false) ∧ Ix.OwnP w' B v S ∧ w.grownBy w' v.ownBlock := by
  rcases h.2 with ⟨rfl, h0⟩ | ⟨g, cap, cur, rfl, hbase, hb, h1, h2, h3, h4⟩
  · have hnil := List.eq_nil_of_length_eq_zero h0
    subst hnil
    refine (AnyF.slices_SortFunc_none Tryz.sortPost none 0 (.func (.func 49) #[] #[]) w).mono fun e w' ⟨he, hw⟩ => ?_
    subst hw
    exact ⟨he, [], List.Perm.refl _, List.Pairwise.nil, World.ownsRow_nil _ _ _ _, ⟨rfl, rfl, rfl, Nat.le_refl _, fun _ _ _ => rfl⟩⟩
  · have hH := Ix.holds_of_rows hb h4
    refine (ix_sort_c g cap T.toArray w hH (Array.getElem?_eq_some_iff.1 hb).1 (by simpa using hl)).mono fun e w' ⟨he, d', n, os, hp, hs, hw⟩ => ?_
    subst hw
    have hsz : d'.size = T.length := by have := hp.1; simpa using this
    have hperm : d'.toList.Perm T := by
      have h5 := hp.2.2
      have e1 : d'.extract 0 T.toArray.size = d' := by simp [← hsz]
      have e2 : T.toArray.extract 0 T.toArray.size = T.toArray := by simp
      rw [e1, e2] at h5
      exact h5
    refine ⟨he, d'.toList, hperm, ?_, ?_, Ix.grownBy_sortedP _⟩
    · rw [List.pairwise_iff_getElem]
      intro i j hi hj hij
      have h6 := hs i j (Nat.zero_le _) hij (by simp; rw [← hsz]; simpa using hj)
      rw [getElem!_pos d' i (by simpa using hi), getElem!_pos d' j (by simpa using hj)] at h6
      exact h6
    · have h7 := Ix.ownsRow_sortedP (n := n) (os := os) (F := Go.Sort.flatK Ix.encP 4 d') (m := T.length) (by rw [Go.Sort.size_flatK, hsz]) hbase hb h1 h2 h3
      rw [Ix.flat_list] at h7
      unfold Ix.OwnP
      rw [show d'.toList.length = T.length from by rw [Array.length_toList, hsz]]
      exact h7

end Go.Proofs.YtcjalpegffldaaaGreatDoor
