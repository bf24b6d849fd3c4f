/- Texts of this seat's, what the claim needs of them. -/
import Derived.Test.YtlakomilichhnaaGreatDoorZOi
import Derived.Test.YtlakomilichhnaaGreatDoorZPc
import Derived.Test.YtlakomilichhnaaGreatDoorZPd
import Derived.Test.YtlakomilichhnaaGreatDoorZOk
import Derived.Test.YtlakomilichhnaaGreatDoorZOj
import Derived.Laws.EntriesVeiled
import Derived.StillTailTactics
import Derived.Test.YtlakomilichhnaaGreatDoorZOx
namespace Go.Proofs.YtlakomilichhnaaGreatDoor.Qr
end Go.Proofs.YtlakomilichhnaaGreatDoor.Qr
namespace Go.Proofs.YtlakomilichhnaaGreatDoor.Rc
end Go.Proofs.YtlakomilichhnaaGreatDoor.Rc
namespace Go.Proofs.YtlakomilichhnaaGreatDoor
open Go.RowKit
set_option maxRecDepth 100000
namespace Vm
theorem Map.look_ok {k : TypeId} {w : World} {M n : Nat} {f : Lit → Option Value} (h : Map k w M n f) (K : Maps.Keyed Tryz.prog k) {t e : TypeId} (ht : Tryz.prog.underlying t = some (.map k e)) {z : Value} (hz : (zeroValue e).run Tryz.prog w = .ok z w) {key : Value} {kl : Lit} (hkey : keyOf Tryz.prog k key = some kl) {v : Value} (hv : (f kl).getD z = v) :
  (Instr.lookup t (.map (some M)) key true).run Tryz.prog w = .ok (.tuple #[v, .bool (f kl).isSome]) w := by
 obtain ⟨D, h1, h2⟩ := h.d
 obtain ⟨u, ps, hrun, hu⟩ := h1.look_ok K ht hz (zd := .held z) (zp := []) rfl hkey
 rw [(h2 kl).2] at hu
 rw [(h2 kl).1] at hrun
 have e : u = v := by
  injection hu with hu
  injection hu with hu
  cases hf : f kl with
  | none => rw [hf] at hu hv; injection hu with hu; rw [hu]; exact hv
  | some x => rw [hf] at hu hv; injection hu with hu; rw [hu]; exact hv
 rw [hrun, e]
end Vm
namespace Sr
open Rc hiding bys
open Qr
open Classical in
noncomputable def knowF (l : List Rd) : Lit → Option Value := fun kl => if ∃ r ∈ l, kl = .int .i64 r.id then some (.bool true) else none
theorem knowF_at (l : List Rd) (n : Int) : (knowF l (.int .i64 n)).getD (.bool false) = .bool (decide (n ∈ l.map (·.id))) := by
 unfold knowF
 by_cases h : ∃ r ∈ l, Lit.int .i64 n = .int .i64 r.id
 ·rw [if_pos h]
  obtain ⟨r, hr, e⟩ := h
  injection e with _ e
  rw [decide_eq_true (List.mem_map.2 ⟨r, hr, e.symm⟩)]
  rfl
 ·rw [if_neg h, decide_eq_false]
  ·rfl
  ·intro h1
   obtain ⟨r, hr, e⟩ := List.mem_map.1 h1
   exact h ⟨r, hr, by rw [e]⟩
theorem in64_wf {x : Int} (h : In64 x) : (Lit.int .i64 x).wf = true := WalkArith.wf_i64 (by unfold In64 at h; omega)
theorem in64_key {x : Int} (h : In64 x) : keyOf Tryz.prog 3 (.int .i64 x) = some (.int .i64 x) := Maps.keyOf_int_mk Tryz.underlying3 (in64_wf h)
theorem bzero (w : World) : (zeroValue 4).run Tryz.prog w = .ok (.bool false) w := by kernel_rfl
structure CapK (w : World) (bx P MI nI : Nat) (l : List Rd) : Prop where
 k0 : w.cell? ⟨bx, 0, none⟩ = some (.pointer (some ⟨P, 0, none⟩))
 k2 : w.cell? ⟨P, 2, none⟩ = some (.map (some MI))
 mi : Vm.Map 3 w MI nI (knowF l)
theorem CapK.grown {w w' : World} {bx P MI nI : Nat} {l : List Rd} {row : Option Nat} (h : CapK w bx P MI nI l) (hg : w.grownBy w' row) (h1 : some bx ≠ row) (h2 : some P ≠ row) (h3 : some MI ≠ row) : CapK w' bx P MI nI l :=
 ⟨(World.cell?_of_block (hg.block bx (Rc.cell_lt h.k0) h1)).trans h.k0, (World.cell?_of_block (hg.block P (Rc.cell_lt h.k2) h2)).trans h.k2, h.mi.kept hg h3⟩
end Sr
theorem sr_known1_enters : ∀ args w, (callFunc 147 args).run Tryz.prog w = .ok (.enter 147 args) w := enters_of Tryz.func147 (by kernel_rfl) rfl
set_option maxHeartbeats 800000 in
theorem sr_known1_c (l : List Rc.Rd) (bx P MI nI : Nat) (x : Int) (w : World) (h : Sr.CapK w bx P MI nI l) (hx : Sr.In64 x) :
  Calls Tryz.prog 147 #[.int .i64 x, .pointer (some ⟨bx, 0, none⟩)] w fun e w' => e = .returned (.bool (!decide (x ∈ l.map (·.id)))) ∧ w = w' := by
 obtain ⟨k0, k2, mi⟩ := h
 have hrun := mi.look Ix.nkey Tryz.underlying62 (Sr.bzero w) (Sr.in64_key hx) (Sr.knowF_at l x)
 obtain ⟨b, hb⟩ : ∃ b, decide (x ∈ l.map (·.id)) = b := ⟨_, rfl⟩
 rw [hb] at hrun ⊢
 clear mi hb hx
 go_enter Tryz.func147, Tryz.ntmps147
 go_wp2
 go_ret
 exact ⟨rfl, rfl⟩
namespace Sr
open Rc hiding bys
open Qr
abbrev fnW (P : Nat) : Value := .func (.func 34) #[.pointer (some ⟨P, 0, none⟩)] #[]
abbrev fnY (P : Nat) : Value := .func (.func 35) #[.pointer (some ⟨P, 0, none⟩)] #[]
abbrev fnK (P : Nat) : Value := .func (.func 36) #[.pointer (some ⟨P, 0, none⟩)] #[]
noncomputable def findF (P : Nat) : Lit → Option Value :=
 Vm.upd (Vm.upd (Vm.upd (Vm.upd (Vm.upd (Vm.upd (Vm.upd (fun _ => none) (.int .i64 1) (fnW P)) (.int .i64 2) (fnW P)) (.int .i64 3) (fnW P)) (.int .i64 4) (fnY P)) (.int .i64 5) (fnK P)) (.int .i64 6) (fnK P)) (.int .i64 7) (fnK P)
theorem ne_lit {a b : Int} (h : a ≠ b) : Lit.int .i64 a ≠ .int .i64 b := fun e => h (by injection e)
theorem findF_w {o : Int} (P : Nat) (h : o = 1 ∨ o = 2 ∨ o = 3) : findF P (.int .i64 o) = some (fnW P) := by
 unfold findF
 rw [Vm.upd_other _ _ (ne_lit (by omega)), Vm.upd_other _ _ (ne_lit (by omega)), Vm.upd_other _ _ (ne_lit (by omega)), Vm.upd_other _ _ (ne_lit (by omega))]
 rcases h with rfl | rfl | rfl
 ·rw [Vm.upd_other _ _ (ne_lit (by omega)), Vm.upd_other _ _ (ne_lit (by omega)), Vm.upd_same]
 ·rw [Vm.upd_other _ _ (ne_lit (by omega)), Vm.upd_same]
 ·rw [Vm.upd_same]
theorem findF_y (P : Nat) : findF P (.int .i64 4) = some (fnY P) := by
 unfold findF
 rw [Vm.upd_other _ _ (ne_lit (by omega)), Vm.upd_other _ _ (ne_lit (by omega)), Vm.upd_other _ _ (ne_lit (by omega)), Vm.upd_same]
theorem findF_k {o : Int} (P : Nat) (h : o = 5 ∨ o = 6 ∨ o = 7) : findF P (.int .i64 o) = some (fnK P) := by
 unfold findF
 rcases h with rfl | rfl | rfl
 ·rw [Vm.upd_other _ _ (ne_lit (by omega)), Vm.upd_other _ _ (ne_lit (by omega)), Vm.upd_same]
 ·rw [Vm.upd_other _ _ (ne_lit (by omega)), Vm.upd_same]
 ·rw [Vm.upd_same]
structure Gx (T : List Ix.PT) : Prop where
 len : T.length ≤ 2500000000
 wl : ∀ t ∈ T, t.1.word.length ≤ 140737488351232
 al : ∀ t ∈ T, t.1.at_.length ≤ 9223372036854775807
 ids : ∀ t ∈ T, In64 t.1.id
 asc : Ix.Asc (T.map (·.1))
 at0 : ∀ t ∈ T, ∀ n ∈ t.1.at_, 0 ≤ n ∧ n ≤ 9223372036854775807
structure Ev (w : World) (P MI MF nI : Nat) (T : List Ix.PT) (xa : Option Addr) (xc : Nat) (l : List Rd) (la : Option Addr) (lc : Nat) : Prop where
 c0 : w.cell? ⟨P, 0, none⟩ = some (.slice xa T.length xc)
 c1 : w.cell? ⟨P, 1, none⟩ = some (.slice la l.length lc)
 c2 : w.cell? ⟨P, 2, none⟩ = some (.map (some MI))
 c3 : w.cell? ⟨P, 3, none⟩ = some (.map (some MF))
 px : Ix.PsA w xa xc T
 rl : Rc.RdA w la lc l
 mi : Vm.Map 3 w MI nI (knowF l)
 mf : Vm.Map 3 w MF 7 (findF P)
variable {w w' : World} {P MI MF nI : Nat} {T : List Ix.PT} {xa : Option Addr} {xc : Nat} {l : List Rd} {la : Option Addr} {lc : Nat}
theorem Ev.below (h : Ev w P MI MF nI T xa xc l la lc) (hb : Below w.heap.size w w') : Ev w' P MI MF nI T xa xc l la lc :=
 ⟨cell_later hb h.c0, cell_later hb h.c1, cell_later hb h.c2, cell_later hb h.c3, h.px.below hb, h.rl.below hb, h.mi.below hb, h.mf.below hb⟩
theorem word_in64 {T : List Ix.PT} (h : ∀ t ∈ T, In64 t.1.id) {x : List Ix.Post} (hx : T.map (·.1) = x) {p : Ix.Post → Bool} : ∀ n ∈ Cp.puts Cp.ltI ((x.filter p).map (·.id)), In64 n := by
 intro n hn
 rw [Cp.puts_mem, List.mem_map] at hn
 obtain ⟨q, hq, rfl⟩ := hn
 have hq := (List.mem_filter.1 hq).1
 rw [← hx] at hq
 obtain ⟨t, ht, rfl⟩ := List.mem_map.1 hq
 exact h t ht
end Sr
set_option maxHeartbeats 1600000 in
theorem sr_known_c (P MI MF nI : Nat) (T : List Ix.PT) (xa : Option Addr) (xc : Nat) (l : List Rc.Rd) (la : Option Addr) (lc : Nat) (L : List Int) (ia : Option Addr) (ic : Nat) (w : World) (hE : Sr.Ev w P MI MF nI T xa xc l la lc) (hL : Ix.IA w ia ic L) (hr : ∀ x ∈ L, Sr.In64 x) (hl : L.length ≤ 1000000000000) :
  Calls Tryz.prog 80 #[.pointer (some ⟨P, 0, none⟩), .slice ia L.length ic] w fun e w' => ∃ v, e = .returned v ∧ Ix.OwnI w' w.heap.size v (L.filter fun n => decide (n ∈ l.map (·.id))) ∧ Below w.heap.size w w' := by
 have hmf : ∀ (fn : Fn) (first cap : Array Value) (w : World), (Instr.makeFunc fn first cap).run Tryz.prog w = .ok (.func fn first cap) w := fun _ _ _ _ => rfl
 obtain ⟨W, hW⟩ : ∃ W, w.alloc (.cells #[.pointer (some ⟨P, 0, none⟩)] 61) = W := ⟨_, rfl⟩
 have hB : Below w.heap.size w W := by rw [← hW]; exact Tx.newb _ _
 have hWs : W.heap.size = w.heap.size + 1 := by rw [← hW]; simp
 have k0 : W.cell? ⟨w.heap.size, 0, none⟩ = some (.pointer (some ⟨P, 0, none⟩)) := by rw [← hW]; simp
 have hPl := Rc.cell_lt hE.c2
 have hMl := hE.mi.lt
 have hEW := hE.below hB
 have hCK : Sr.CapK W w.heap.size P MI nI l := ⟨k0, hEW.c2, hEW.mi⟩
 have HCL := Lib.hid (cloneI_c L ia ic W (hL.below hB) hl)
 have HCK := Lib.hid hCK
 have HR := Lib.hid hr
 have HD : Hid (∀ (v : Value) (w1 : World), Ix.OwnI w1 W.heap.size v L → Below W.heap.size W w1 → Calls Tryz.prog 85 #[v, .func (.func 147) #[] #[.pointer (some ⟨w.heap.size, 0, none⟩)]] w1 fun e w' => ∃ v', e = .returned v' ∧ Ix.OwnI w' W.heap.size v' (L.filter fun n => decide (n ∈ l.map (·.id))) ∧ w1.grownBy w' v.ownBlock) := Lib.hid (fun v w1 ho hb1 => by
  have hC1 := HCK.out.grown (Sr.grown_below hb1 none) (by simp) (by simp) (by simp)
  have hlow := fun g hg => (ho.lt g hg).1
  have hne : ∀ b, b < W.heap.size → some b ≠ v.ownBlock := fun b hb e => by have := hlow b e.symm; omega
  have hd := delI_c 147 #[.pointer (some ⟨w.heap.size, 0, none⟩)] sr_known1_enters (fun x => !decide (x ∈ l.map (·.id))) L v W.heap.size w1 ho HR.out hl (fun x hx W' hg => (sr_known1_c l w.heap.size P MI nI x W' (hC1.grown hg (hne _ (by omega)) (hne _ (by omega)) (hne _ (by omega))) hx).mono fun e w' ⟨he, hw⟩ => ⟨he, 0, hw ▸ (World.drewN_zero W').symm⟩)
  refine hd.mono fun e w' ⟨v', he, ho', _, hg⟩ => ⟨v', he, ?_, hg⟩
  have e9 : (L.filter fun x => !!decide (x ∈ l.map (·.id))) = L.filter fun n => decide (n ∈ l.map (·.id)) := by congr 1; funext x; rw [Bool.not_not]
  rwa [e9] at ho')
 clear hE hL hr hEW hCK k0
 go_enter Tryz.func80, Tryz.ntmps80
 go_wp2_with (first
  | (go_at_call 85; ((with_reducible refine (HD.out _ _ HO1.out HB1.out).mono ?_); rintro e w2 ⟨v2, rfl, ho2, hg2⟩; have HO2 := Lib.hid ho2; clear ho2))
  | (go_at_call 53; ((with_reducible refine HCL.out.mono ?_); rintro e w1 ⟨v1, rfl, ho1, hb1⟩; have HO1 := Lib.hid ho1; have HB1 := Lib.hid hb1; clear ho1 hb1)))
 go_ret
 exact ⟨_, rfl, Sr.ownI_le HO2.out (by omega), Tx.step hB (HB1.out.grown hg2 HB1.out.size (fun i hi => (HO1.out.lt i hi).1))⟩
namespace Sr
theorem phr_sub (x : List Ix.Post) (f : Int) (ws : List Ix.By) : ∀ n ∈ Ix.phrase x f ws, ∃ p ∈ x, p.id = n := by
 intro n hn
 unfold Ix.phrase at hn
 rw [Cp.puts_mem] at hn
 cases ws with
 | nil => simp [Ix.phr] at hn
 | cons s r =>
  obtain ⟨p, hp, _, _, e, _⟩ := Ix.phr_mem.1 (by rw [← Cp.puts_mem (lt := Cp.ltI)] at hn; exact hn)
  exact ⟨p, hp, e⟩
theorem phr_in64 {T : List Ix.PT} (h : ∀ t ∈ T, In64 t.1.id) {f : Int} {ws : List Ix.By} : ∀ n ∈ Ix.phrase (T.map (·.1)) f ws, In64 n := by
 intro n hn
 obtain ⟨p, hp, rfl⟩ := phr_sub _ _ _ n hn
 obtain ⟨t, ht, rfl⟩ := List.mem_map.1 hp
 exact h t ht
theorem phr_len {T : List Ix.PT} (hX : Gx T) (f : Int) (ws : List Ix.By) (hw : ws.length ≤ 100000) : (Ix.phrase (T.map (·.1)) f ws).length ≤ T.length := by
 rw [← Ix.phr_same hX.asc hX.at0 f ws hw]
 refine Nat.le_trans (puts_len _ _) ?_
 unfold Ix.phrQ Ix.ofF
 refine Nat.le_trans (List.length_filter_le _ _) ?_
 rw [List.length_map]
 exact List.length_filter_le _ _
end Sr
set_option maxHeartbeats 1600000 in
theorem sr_words_1 (P MI MF nI : Nat) (T : List Ix.PT) (xa : Option Addr) (xc : Nat) (l : List Rc.Rd) (la : Option Addr) (lc : Nat) (f : Int) (y : ByteArray) (sa : Option Addr) (sc : Nat) (ka : Option Addr) (kc : Nat) (w : World) (hE : Sr.Ev w P MI MF nI T xa xc l la lc) (hX : Sr.Gx T) (hw : SLA w sa sc [y]) :
  Calls Tryz.prog 34 #[.pointer (some ⟨P, 0, none⟩), .agg #[.int .i64 1, .int .i64 f, .slice sa 1 sc, .int .i64 0, .int .i64 0, .slice ka 0 kc]] w fun e w' => ∃ v out, e = .returned v ∧ Ix.OwnI w' w.heap.size v out ∧ Sr.Fd l (fun r => Sr.ev (Sr.leafX (T.map (·.1)) r) (.mk 1 f [y] 0 0 [])) out ∧ out.length ≤ 1000000000000 ∧ Below w.heap.size w w' := by
 obtain ⟨W, hW⟩ : ∃ W, w.alloc (.cells #[.int .i64 1, .int .i64 f, .slice sa 1 sc, .int .i64 0, .int .i64 0, .slice ka 0 kc] 29) = W := ⟨_, rfl⟩
 have hB : Below w.heap.size w W := by rw [← hW]; exact Tx.newb _ _
 have d0 : W.cell? ⟨w.heap.size, 0, none⟩ = some (.int .i64 1) := by rw [← hW]; simp
 have d1 : W.cell? ⟨w.heap.size, 1, none⟩ = some (.int .i64 f) := by rw [← hW]; simp
 have d2 : W.cell? ⟨w.heap.size, 2, none⟩ = some (.slice sa 1 sc) := by rw [← hW]; simp
 have d3 : W.cell? ⟨w.heap.size, 3, none⟩ = some (.int .i64 0) := by rw [← hW]; simp
 have d4 : W.cell? ⟨w.heap.size, 4, none⟩ = some (.int .i64 0) := by rw [← hW]; simp
 have d5 : W.cell? ⟨w.heap.size, 5, none⟩ = some (.slice ka 0 kc) := by rw [← hW]; simp
 obtain ⟨L, hL⟩ : ∃ L, Ix.word (T.map (·.1)) f y.data.toList = L := ⟨_, rfl⟩
 have hin : ∀ n ∈ L, Sr.In64 n := by
  rw [← hL]
  exact Sr.word_in64 hX.ids rfl
 have hlen : L.length ≤ 2500000000 := by
  rw [← hL]
  refine Nat.le_trans ?_ hX.len
  refine Nat.le_trans (Sr.puts_len _ _) ?_; rw [List.length_map]; exact Nat.le_trans (List.length_filter_le _ _) (by rw [List.length_map]; exact Nat.le_refl _)
 have hFd : Sr.Fd l (fun r => Sr.ev (Sr.leafX (T.map (·.1)) r) (.mk 1 f [y] 0 0 [])) (L.filter fun n => decide (n ∈ l.map (·.id))) :=
  (Sr.Fd.known l L).congr fun r _ => by rw [Sr.ev, if_neg (by decide), if_neg (by decide), if_neg (by decide), ← hL]; rfl
 have hEW := hE.below hB
 have XC : ∀ W', Below W.heap.size W W' → _ := fun W' h9 => ix_Word_c T xa xc f y.data.toList W' (hEW.px.below h9) (by have := hX.len; omega)
 rw [← Ix.word_T, hL] at XC
 have KC : ∀ W' ia ic, Below W.heap.size W W' → Ix.IA W' ia ic L → _ := fun W' ia ic h9 h8 => sr_known_c P MI MF nI T xa xc l la lc L ia ic W' (hEW.below h9) h8 hin (by omega)
 have HXC := Lib.hid XC
 have HKC := Lib.hid KC
 have HFD := Lib.hid hFd
 have p0 := hEW.c0
 have hWs := hB.size
 obtain ⟨b2, o2, rfl, hb2, y0⟩ := (hw.below hB).get (k := 0) (x := y) rfl
 rw [Nat.add_zero] at y0
 clear hE hX hw hin hFd XC KC hEW hL
 go_enter Tryz.func34, Tryz.ntmps34
 go_wp2
 clear hW
 go_region_held3 (fun w' => Below W.heap.size W w' ∧ w'.cell? ⟨w.heap.size, 1, none⟩ = some (.int .i64 f) ∧ w'.cell? ⟨w.heap.size, 2, none⟩ = some (.slice (some ⟨b2, o2, none⟩) 1 sc) ∧ w'.cell? ⟨b2, o2, none⟩ = some (.string y) ∧ w'.cell? ⟨P, 0, none⟩ = some (.slice xa T.length xc))
  (first | exact ⟨(Below.refl _ _).drew, d1, d2, y0, p0⟩ | (go_split_ands; exact ⟨Tx.step (by assumption) hbx, cell_later hbx (by assumption), cell_later hbx (by assumption), cell_later hbx (by assumption), cell_later hbx (by assumption)⟩))
  (first
   | (go_split_ands; go_at_call 81; ((with_reducible refine (HXC.out _ (by assumption)).mono ?_); rintro e wx ⟨v, rfl, ho, hbx⟩; obtain ⟨va, vc, rfl, hia, _⟩ := Ix.IA.of_own ho rfl; have HIA := Lib.hid hia; clear hia ho))
   | (go_split_ands; go_at_call 80; ((with_reducible refine (HKC.out _ _ _ (by assumption) HIA.out).mono ?_); rintro e wx ⟨v, rfl, ho, hbx⟩; have hwsz := (by assumption : Below W.heap.size W _).size; have HO := Lib.hid (Sr.ownI_le ho (Nat.le_trans hWs hwsz)); clear ho)))
 go_split_ands
 go_wp2
 go_ret
 have hb9 : Below W.heap.size W wx := by assumption
 have hfl := List.length_filter_le (fun n => decide (n ∈ l.map (·.id))) L
 exact ⟨_, _, rfl, HO.out, HFD.out, by omega, Tx.step hB hb9⟩
set_option maxHeartbeats 1600000 in
theorem sr_words_2 (P MI MF nI : Nat) (T : List Ix.PT) (xa : Option Addr) (xc : Nat) (l : List Rc.Rd) (la : Option Addr) (lc : Nat) (f : Int) (y : ByteArray) (sa : Option Addr) (sc : Nat) (ka : Option Addr) (kc : Nat) (w : World) (hE : Sr.Ev w P MI MF nI T xa xc l la lc) (hX : Sr.Gx T) (hw : SLA w sa sc [y]) :
  Calls Tryz.prog 34 #[.pointer (some ⟨P, 0, none⟩), .agg #[.int .i64 2, .int .i64 f, .slice sa 1 sc, .int .i64 0, .int .i64 0, .slice ka 0 kc]] w fun e w' => ∃ v out, e = .returned v ∧ Ix.OwnI w' w.heap.size v out ∧ Sr.Fd l (fun r => Sr.ev (Sr.leafX (T.map (·.1)) r) (.mk 2 f [y] 0 0 [])) out ∧ out.length ≤ 1000000000000 ∧ Below w.heap.size w w' := by
 obtain ⟨W, hW⟩ : ∃ W, w.alloc (.cells #[.int .i64 2, .int .i64 f, .slice sa 1 sc, .int .i64 0, .int .i64 0, .slice ka 0 kc] 29) = W := ⟨_, rfl⟩
 have hB : Below w.heap.size w W := by rw [← hW]; exact Tx.newb _ _
 have d0 : W.cell? ⟨w.heap.size, 0, none⟩ = some (.int .i64 2) := by rw [← hW]; simp
 have d1 : W.cell? ⟨w.heap.size, 1, none⟩ = some (.int .i64 f) := by rw [← hW]; simp
 have d2 : W.cell? ⟨w.heap.size, 2, none⟩ = some (.slice sa 1 sc) := by rw [← hW]; simp
 have d3 : W.cell? ⟨w.heap.size, 3, none⟩ = some (.int .i64 0) := by rw [← hW]; simp
 have d4 : W.cell? ⟨w.heap.size, 4, none⟩ = some (.int .i64 0) := by rw [← hW]; simp
 have d5 : W.cell? ⟨w.heap.size, 5, none⟩ = some (.slice ka 0 kc) := by rw [← hW]; simp
 obtain ⟨L, hL⟩ : ∃ L, Ix.prefix_ (T.map (·.1)) f y.data.toList = L := ⟨_, rfl⟩
 have hin : ∀ n ∈ L, Sr.In64 n := by
  rw [← hL]
  exact Sr.word_in64 hX.ids rfl
 have hlen : L.length ≤ 2500000000 := by
  rw [← hL]
  refine Nat.le_trans ?_ hX.len
  refine Nat.le_trans (Sr.puts_len _ _) ?_; rw [List.length_map]; exact Nat.le_trans (List.length_filter_le _ _) (by rw [List.length_map]; exact Nat.le_refl _)
 have hFd : Sr.Fd l (fun r => Sr.ev (Sr.leafX (T.map (·.1)) r) (.mk 2 f [y] 0 0 [])) (L.filter fun n => decide (n ∈ l.map (·.id))) :=
  (Sr.Fd.known l L).congr fun r _ => by rw [Sr.ev, if_neg (by decide), if_neg (by decide), if_neg (by decide), ← hL]; rfl
 have hEW := hE.below hB
 have XC : ∀ W', Below W.heap.size W W' → _ := fun W' h9 => ix_Prefix_c T xa xc f y.data.toList W' (hEW.px.below h9) (by have := hX.len; omega)
 rw [← Ix.prefix_T, hL] at XC
 have KC : ∀ W' ia ic, Below W.heap.size W W' → Ix.IA W' ia ic L → _ := fun W' ia ic h9 h8 => sr_known_c P MI MF nI T xa xc l la lc L ia ic W' (hEW.below h9) h8 hin (by omega)
 have HXC := Lib.hid XC
 have HKC := Lib.hid KC
 have HFD := Lib.hid hFd
 have p0 := hEW.c0
 have hWs := hB.size
 obtain ⟨b2, o2, rfl, hb2, y0⟩ := (hw.below hB).get (k := 0) (x := y) rfl
 rw [Nat.add_zero] at y0
 clear hE hX hw hin hFd XC KC hEW hL
 go_enter Tryz.func34, Tryz.ntmps34
 go_wp2
 clear hW
 go_region_held3 (fun w' => Below W.heap.size W w' ∧ w'.cell? ⟨w.heap.size, 1, none⟩ = some (.int .i64 f) ∧ w'.cell? ⟨w.heap.size, 2, none⟩ = some (.slice (some ⟨b2, o2, none⟩) 1 sc) ∧ w'.cell? ⟨b2, o2, none⟩ = some (.string y) ∧ w'.cell? ⟨P, 0, none⟩ = some (.slice xa T.length xc))
  (first | exact ⟨(Below.refl _ _).drew, d1, d2, y0, p0⟩ | (go_split_ands; exact ⟨Tx.step (by assumption) hbx, cell_later hbx (by assumption), cell_later hbx (by assumption), cell_later hbx (by assumption), cell_later hbx (by assumption)⟩))
  (first
   | (go_split_ands; go_at_call 82; ((with_reducible refine (HXC.out _ (by assumption)).mono ?_); rintro e wx ⟨v, rfl, ho, hbx⟩; obtain ⟨va, vc, rfl, hia, _⟩ := Ix.IA.of_own ho rfl; have HIA := Lib.hid hia; clear hia ho))
   | (go_split_ands; go_at_call 80; ((with_reducible refine (HKC.out _ _ _ (by assumption) HIA.out).mono ?_); rintro e wx ⟨v, rfl, ho, hbx⟩; have hwsz := (by assumption : Below W.heap.size W _).size; have HO := Lib.hid (Sr.ownI_le ho (Nat.le_trans hWs hwsz)); clear ho)))
 go_split_ands
 go_wp2
 go_ret
 have hb9 : Below W.heap.size W wx := by assumption
 have hfl := List.length_filter_le (fun n => decide (n ∈ l.map (·.id))) L
 exact ⟨_, _, rfl, HO.out, HFD.out, by omega, Tx.step hB hb9⟩
set_option maxHeartbeats 1600000 in
theorem sr_words_3 (P MI MF nI : Nat) (T : List Ix.PT) (xa : Option Addr) (xc : Nat) (l : List Rc.Rd) (la : Option Addr) (lc : Nat) (f : Int) (ws : List ByteArray) (sa : Option Addr) (sc : Nat) (ka : Option Addr) (kc : Nat) (w : World) (hE : Sr.Ev w P MI MF nI T xa xc l la lc) (hX : Sr.Gx T) (hw : SLA w sa sc ws) (hw0 : ws ≠ []) (hwn : ws.length ≤ 8) (hwz : ∀ s ∈ ws, s.size ≤ 50000000) :
  Calls Tryz.prog 34 #[.pointer (some ⟨P, 0, none⟩), .agg #[.int .i64 3, .int .i64 f, .slice sa ws.length sc, .int .i64 0, .int .i64 0, .slice ka 0 kc]] w fun e w' => ∃ v out, e = .returned v ∧ Ix.OwnI w' w.heap.size v out ∧ Sr.Fd l (fun r => Sr.ev (Sr.leafX (T.map (·.1)) r) (.mk 3 f ws 0 0 [])) out ∧ out.length ≤ 1000000000000 ∧ Below w.heap.size w w' := by
 obtain ⟨W, hW⟩ : ∃ W, w.alloc (.cells #[.int .i64 3, .int .i64 f, .slice sa ws.length sc, .int .i64 0, .int .i64 0, .slice ka 0 kc] 29) = W := ⟨_, rfl⟩
 have hB : Below w.heap.size w W := by rw [← hW]; exact Tx.newb _ _
 have d0 : W.cell? ⟨w.heap.size, 0, none⟩ = some (.int .i64 3) := by rw [← hW]; simp
 have d1 : W.cell? ⟨w.heap.size, 1, none⟩ = some (.int .i64 f) := by rw [← hW]; simp
 have d2 : W.cell? ⟨w.heap.size, 2, none⟩ = some (.slice sa ws.length sc) := by rw [← hW]; simp
 have d3 : W.cell? ⟨w.heap.size, 3, none⟩ = some (.int .i64 0) := by rw [← hW]; simp
 have d4 : W.cell? ⟨w.heap.size, 4, none⟩ = some (.int .i64 0) := by rw [← hW]; simp
 have d5 : W.cell? ⟨w.heap.size, 5, none⟩ = some (.slice ka 0 kc) := by rw [← hW]; simp
 obtain ⟨L, hL⟩ : ∃ L, Ix.phrase (T.map (·.1)) f (ws.map (·.data.toList)) = L := ⟨_, rfl⟩
 have hin : ∀ n ∈ L, Sr.In64 n := by
  rw [← hL]
  exact Sr.phr_in64 hX.ids
 have hlen : L.length ≤ 2500000000 := by
  rw [← hL]
  refine Nat.le_trans ?_ hX.len
  exact Sr.phr_len hX f _ (by rw [List.length_map]; omega)
 have hFd : Sr.Fd l (fun r => Sr.ev (Sr.leafX (T.map (·.1)) r) (.mk 3 f ws 0 0 [])) (L.filter fun n => decide (n ∈ l.map (·.id))) :=
  (Sr.Fd.known l L).congr fun r _ => by rw [Sr.ev, if_neg (by decide), if_neg (by decide), if_neg (by decide), ← hL]; rfl
 have hEW := hE.below hB
 have hwm : (ws.map (·.data.toList)).map (fun x => (⟨x.toArray⟩ : ByteArray)) = ws := by rw [List.map_map]; exact (List.map_congr_left (fun x _ => rfl)).trans (List.map_id _)
 have XC : ∀ W', Below W.heap.size W W' → _ := fun W' h9 => ix_Phrase_c T xa xc f (ws.map (·.data.toList)) sa sc W' (hEW.px.below h9) (by have := hX.len; omega) (by rw [hwm]; exact (hw.below hB).below h9) (by rw [List.length_map]; omega) (fun s hs => by obtain ⟨x, hx, rfl⟩ := List.mem_map.1 hs; rw [Array.length_toList]; exact hwz x hx) hX.wl (fun t ht => hX.ids t ht)
 rw [List.length_map, Ix.phr_same hX.asc hX.at0 f _ (by rw [List.length_map]; omega), hL] at XC
 have KC : ∀ W' ia ic, Below W.heap.size W W' → Ix.IA W' ia ic L → _ := fun W' ia ic h9 h8 => sr_known_c P MI MF nI T xa xc l la lc L ia ic W' (hEW.below h9) h8 hin (by omega)
 have HXC := Lib.hid XC
 have HKC := Lib.hid KC
 have HFD := Lib.hid hFd
 have p0 := hEW.c0
 have hWs := hB.size
 have hwp : (ws.length : Int) ≠ 0 := by have := List.length_pos_iff.2 hw0; omega
 have hwq : ((ws.length : Int) == 0) = false := beq_eq_false_iff_ne.2 hwp
 clear hE hX hw hin hFd XC KC hEW hL hwz
 go_enter Tryz.func34, Tryz.ntmps34
 go_wp2
 clear hW
 go_region_held3 (fun w' => Below W.heap.size W w' ∧ w'.cell? ⟨w.heap.size, 1, none⟩ = some (.int .i64 f) ∧ w'.cell? ⟨w.heap.size, 2, none⟩ = some (.slice sa ws.length sc) ∧ w'.cell? ⟨P, 0, none⟩ = some (.slice xa T.length xc))
  (first | exact ⟨(Below.refl _ _).drew, d1, d2, p0⟩ | (go_split_ands; exact ⟨Tx.step (by assumption) hbx, cell_later hbx (by assumption), cell_later hbx (by assumption), cell_later hbx (by assumption)⟩))
  (first
   | (go_split_ands; go_at_call 83; ((with_reducible refine (HXC.out _ (by assumption)).mono ?_); rintro e wx ⟨v, rfl, ho, hbx⟩; obtain ⟨va, vc, rfl, hia, _⟩ := Ix.IA.of_own ho rfl; have HIA := Lib.hid hia; clear hia ho))
   | (go_split_ands; go_at_call 80; ((with_reducible refine (HKC.out _ _ _ (by assumption) HIA.out).mono ?_); rintro e wx ⟨v, rfl, ho, hbx⟩; have hwsz := (by assumption : Below W.heap.size W _).size; have HO := Lib.hid (Sr.ownI_le ho (Nat.le_trans hWs hwsz)); clear ho)))
 go_split_ands
 go_wp2
 go_ret
 have hb9 : Below W.heap.size W wx := by assumption
 have hfl := List.length_filter_le (fun n => decide (n ∈ l.map (·.id))) L
 exact ⟨_, _, rfl, HO.out, HFD.out, by omega, Tx.step hB hb9⟩
set_option maxHeartbeats 1600000 in
theorem sr_evyears_c (P MI MF nI : Nat) (T : List Ix.PT) (xa : Option Addr) (xc : Nat) (l : List Rc.Rd) (la : Option Addr) (lc : Nat) (ya yb : Int) (sa : Option Addr) (sc : Nat) (ka : Option Addr) (kc : Nat) (w : World) (hE : Sr.Ev w P MI MF nI T xa xc l la lc) (hR : ∀ r ∈ l, Sr.Rg r) (hl : l.length ≤ 1000000) :
  Calls Tryz.prog 35 #[.pointer (some ⟨P, 0, none⟩), .agg #[.int .i64 4, .int .i64 0, .slice sa 0 sc, .int .i64 ya, .int .i64 yb, .slice ka 0 kc]] w fun e w' => ∃ v out, e = .returned v ∧ Ix.OwnI w' w.heap.size v out ∧ Sr.Fd l (fun r => Sr.ev (Sr.leafX (T.map (·.1)) r) (.mk 4 0 [] ya yb [])) out ∧ out.length ≤ 1000000000000 ∧ Below w.heap.size w w' := by
 have hml : maxLen = 9223372036854775807 := rfl
 obtain ⟨i0, hi0, hz0, hz1, hz2⟩ := info_parts info_int
 have HI0 := Lib.hid hi0
 clear hi0
 obtain ⟨W, hW⟩ : ∃ W, w.alloc (.cells #[.int .i64 4, .int .i64 0, .slice sa 0 sc, .int .i64 ya, .int .i64 yb, .slice ka 0 kc] 29) = W := ⟨_, rfl⟩
 have hB : Below w.heap.size w W := by rw [← hW]; exact Tx.newb _ _
 have d0 : W.cell? ⟨w.heap.size, 0, none⟩ = some (.int .i64 4) := by rw [← hW]; simp
 have d1 : W.cell? ⟨w.heap.size, 1, none⟩ = some (.int .i64 0) := by rw [← hW]; simp
 have d2 : W.cell? ⟨w.heap.size, 2, none⟩ = some (.slice sa 0 sc) := by rw [← hW]; simp
 have d3 : W.cell? ⟨w.heap.size, 3, none⟩ = some (.int .i64 ya) := by rw [← hW]; simp
 have d4 : W.cell? ⟨w.heap.size, 4, none⟩ = some (.int .i64 yb) := by rw [← hW]; simp
 have d5 : W.cell? ⟨w.heap.size, 5, none⟩ = some (.slice ka 0 kc) := by rw [← hW]; simp
 have hEW := hE.below hB
 have c1 := hEW.c1
 have HL := Lib.hid hEW.rl
 have HR := Lib.hid hR
 have hcap := hEW.rl.cap
 have hmax := hEW.rl.max
 have HF : Hid (∀ L, L = (l.filter fun r => Sr.yrB (Rc.year r.fields) ya yb).map (·.id) → Sr.Fd l (fun r => Sr.ev (Sr.leafX (T.map (·.1)) r) (.mk 4 0 [] ya yb [])) L) := Lib.hid (fun L hL => by rw [hL]; exact Sr.Fd.of_filter l _)
 have hWs := hB.size
 clear hE hEW hR
 go_enter Tryz.func35, Tryz.ntmps35
 go_wp2
 clear hW
 go_loopw [5, 13] (fun v i wr => ∃ (k : Nat) (L : List Int), k ≤ l.length ∧ i = .int .i64 k ∧ Hid (L = ((l.take k).filter fun r => Sr.yrB (Rc.year r.fields) ya yb).map (·.id)) ∧ L.length ≤ k ∧ Hid (Ix.OwnI wr W.heap.size v L) ∧ Below W.heap.size W wr) (fun _ i _ => l.length - (intOf i).toNat)
 case atStart => exact ⟨0, [], Nat.zero_le _, rfl, Lib.hid (by simp), Nat.le_refl _, Lib.hid (World.ownsRow_nil _ _ _ _), Below.refl _ _⟩
 case round =>
  obtain ⟨k, L, hk, rfl, hT, hTk, hown, hb⟩ := hrel
  have hbs := hb.size
  by_cases hlt : k < l.length
  ·obtain ⟨x, hx⟩ : ∃ x, l[k]? = some x := ⟨_, List.getElem?_eq_getElem hlt⟩
   obtain ⟨b, o, fa, fc, rfl, hbl, x0, x1, x2, x3, x4, hfx⟩ := HL.out.get hx
   replace x0 := cell_later hb x0
   replace x1 := cell_later hb x1
   replace x2 := cell_later hb x2
   replace x3 := cell_later hb x3
   replace x4 := cell_later hb x4
   have hxm := List.mem_of_getElem? hx
   obtain ⟨U, hU⟩ : ∃ U, wr.alloc (.cells #[.int .i64 x.id, .int .i64 x.ver, .int .i64 x.kind, .string x.lang, .slice fa x.fields.length fc] 51) = U := ⟨_, rfl⟩
   have hbU : Below W.heap.size W U := by rw [← hU]; exact hb.alloc hbs _
   have hbUs := hbU.size
   have y0 : U.cell? ⟨wr.heap.size, 0, none⟩ = some (.int .i64 x.id) := by rw [← hU]; simp
   have y1 : U.cell? ⟨wr.heap.size, 1, none⟩ = some (.int .i64 x.ver) := by rw [← hU]; simp
   have y2 : U.cell? ⟨wr.heap.size, 2, none⟩ = some (.int .i64 x.kind) := by rw [← hU]; simp
   have y3 : U.cell? ⟨wr.heap.size, 3, none⟩ = some (.string x.lang) := by rw [← hU]; simp
   have y4 : U.cell? ⟨wr.heap.size, 4, none⟩ = some (.slice fa x.fields.length fc) := by rw [← hU]; simp
   have d0' := cell_later hbU d0
   have d1' := cell_later hbU d1
   have d2' := cell_later hbU d2
   have d3' := cell_later hbU d3
   have d4' := cell_later hbU d4
   have d5' := cell_later hbU d5
   have hoU := hown.out.alloc (.cells #[.int .i64 x.id, .int .i64 x.ver, .int .i64 x.kind, .string x.lang, .slice fa x.fields.length fc] 51)
   rw [hU] at hoU
   have CC := search_years_c x.fields fa fc x.id x.ver x.kind x.lang 4 0 ya yb (.slice sa 0 sc) (.slice ka 0 kc) U (hfx.below hbU) (HR.out x hxm).gd
   have HOU := Lib.hid hoU
   have hst : (l.take (k + 1)).filter (fun r => Sr.yrB (Rc.year r.fields) ya yb) = (l.take k).filter (fun r => Sr.yrB (Rc.year r.fields) ya yb) ++ (if Sr.yrB (Rc.year x.fields) ya yb = true then [x] else []) := by
    rw [List.take_add_one, hx, List.filter_append]
    by_cases hq : Sr.yrB (Rc.year x.fields) ya yb = true <;> simp [hq]
   obtain ⟨t, ht⟩ : ∃ t, Sr.yrB (Rc.year x.fields) ya yb = t := ⟨_, rfl⟩
   rw [ht] at CC hst
   have HC := Lib.hid CC
   clear CC hoU hx hfx hown hxm ht d0' d1' d2' d3' d4' d5'
   have d0' := cell_later hbU d0
   have d1' := cell_later hbU d1
   have d2' := cell_later hbU d2
   have d3' := cell_later hbU d3
   have d4' := cell_later hbU d4
   have d5' := cell_later hbU d5
   cases t with
   | true =>
    rw [if_pos rfl] at hst
    have HT : Hid (L ++ [x.id] = ((l.take (k + 1)).filter fun r => Sr.yrB (Rc.year r.fields) ya yb).map (·.id)) := Lib.hid (by rw [hst, hT.out, List.map_append]; rfl)
    clear hst hT
    go_wp2_with (first
     | (go_at_call 67; ((with_reducible refine HC.out.mono ?_); rintro e w7 ⟨rfl, hb7⟩; have hb7' := hbU.trans (hb7.mono hbUs); have hb7s := hb7'.size; have HO7 := Lib.hid (own_below HOU.out hb7); have z0 := cell_later hb7 y0))
     | (at_builtin; go_must ((refine wpList_append_sl rfl _ _ 35 rfl W.heap.size 3 i0 _ 1 8 Tryz.underlying35 HI0.out hz0 hz1 hz2 rfl (by decide) _ L.length _ rfl (HO7.out.alloc _) (some ⟨_, 0, none⟩) 1 1 [Value.int .i64 x.id] rfl rfl (fun h9 => by cases h9) (fun ad had => by cases had; exact Br.cells_new_at _ _ (by first | rfl | simp) _ _) (by simp [Value.oneCell']) (by unfold maxLen; omega) (by omega) (by simp; omega) ?_); intro v' w8 hown8 hg8 hnil8)))
    go_roundw
    case rel => exact ⟨k + 1, L ++ [x.id], hlt, by go_num, HT, by simp; omega, Lib.hid (by unfold Ix.OwnI; rw [List.length_append, List.map_append]; exact hown8), (hb7'.alloc hb7s _).grown hg8 (by simp; omega) (fun i hi => (HO7.out.lt i hi).1)⟩
    case measure => simp [intOf]; omega
   | false =>
    rw [if_neg (by decide), List.append_nil] at hst
    have HT : Hid (L = ((l.take (k + 1)).filter fun r => Sr.yrB (Rc.year r.fields) ya yb).map (·.id)) := Lib.hid (by rw [hst, hT.out])
    clear hst hT
    go_wp2_with (go_at_call 67; ((with_reducible refine HC.out.mono ?_); rintro e w7 ⟨rfl, hb7⟩; have hb7' := hbU.trans (hb7.mono hbUs); have HO7 := Lib.hid (own_below HOU.out hb7)))
    go_roundw
    case rel => exact ⟨k + 1, L, hlt, by go_num, HT, by omega, HO7, hb7'⟩
    case measure => simp [intOf]; omega
  ·obtain rfl : k = l.length := by omega
   have hfin := HF.out L (by rw [hT.out, List.take_length])
   have HFN := Lib.hid hfin
   clear hfin
   go_wp2
   go_ret
   exact ⟨_, _, rfl, Sr.ownI_le hown.out (by omega), HFN.out, by omega, Tx.step hB hb⟩
end Go.Proofs.YtlakomilichhnaaGreatDoor
namespace Go.Proofs.YtlakomilichhnaaGreatDoor
open Go.RowKit
set_option maxRecDepth 100000
namespace Sr
open Rc hiding bys
open Qr
theorem FA_kept {α : Type} {enc : α → List Value} {size : Nat} {w w' : World} {a : Option Addr} {c : Nat} {xs : List α} {row : Option Nat} (h : Br.FA enc size w a c xs) (hg : w.grownBy w' row) (hne : ∀ ad, a = some ad → some ad.block ≠ row) : Br.FA enc size w' a c xs := by
 obtain ⟨b, o, h1, h2⟩ := h.at_
 refine ⟨h.cap, h.max, b, o, fun hn => ⟨(h1 hn).1, Nat.lt_of_lt_of_le (h1 hn).2 hg.size⟩, fun j i x u hx hu => ?_⟩
 have hn : xs ≠ [] := fun e => by rw [e] at hx; simp at hx
 exact (World.cell?_of_block (hg.block b (h1 hn).2 (hne _ (h1 hn).1))).trans (h2 j i x u hx hu)
structure CapF (w : World) (f : Nat) (fa : Option Addr) (fc : Nat) (F : List Int) : Prop where
 k0 : w.cell? ⟨f, 0, none⟩ = some (.slice fa F.length fc)
 ia : Ix.IA w fa fc F
theorem CapF.grown {w w' : World} {f : Nat} {fa : Option Addr} {fc : Nat} {F : List Int} {row : Option Nat} (h : CapF w f fa fc F) (hg : w.grownBy w' row) (h1 : some f ≠ row) (h2 : ∀ ad, fa = some ad → some ad.block ≠ row) : CapF w' f fa fc F :=
 ⟨(World.cell?_of_block (hg.block f (Rc.cell_lt h.k0) h1)).trans h.k0, FA_kept h.ia hg h2⟩
end Sr
theorem sr_kids1_enters : ∀ args w, (callFunc 84 args).run Tryz.prog w = .ok (.enter 84 args) w := enters_of Tryz.func84 (by kernel_rfl) rfl
theorem sr_kids2_enters : ∀ args w, (callFunc 86 args).run Tryz.prog w = .ok (.enter 86 args) w := enters_of Tryz.func86 (by kernel_rfl) rfl
set_option maxHeartbeats 800000 in
theorem sr_kids1_c (f : Nat) (fa : Option Addr) (fc : Nat) (F : List Int) (x : Int) (w : World) (h : Sr.CapF w f fa fc F) :
  Calls Tryz.prog 84 #[.int .i64 x, .pointer (some ⟨f, 0, none⟩)] w fun e w' => e = .returned (.bool (decide (x ∈ F))) ∧ w = w' := by
 obtain ⟨k0, ia⟩ := h
 have HC := Lib.hid ((containsI_c F x fa fc w ia).mono fun e w' h9 => (show e = .returned (.bool (decide (x ∈ F))) ∧ w = w' from ⟨h9.1, h9.2.symm⟩))
 clear ia
 go_enter Tryz.func84, Tryz.ntmps84
 go_wp2_with (go_at_call 40; ((with_reducible refine HC.out.mono ?_); rintro e w1 ⟨rfl, rfl⟩))
 go_ret
 exact ⟨rfl, rfl⟩
set_option maxHeartbeats 800000 in
theorem sr_kids2_c (g f : Nat) (fa : Option Addr) (fc : Nat) (F : List Int) (x : Int) (w : World) (h : Sr.CapF w f fa fc F) (k1 : w.cell? ⟨g, 0, none⟩ = some (.func (.func 84) #[] #[.pointer (some ⟨f, 0, none⟩)])) :
  Calls Tryz.prog 86 #[.int .i64 x, .pointer (some ⟨g, 0, none⟩)] w fun e w' => e = .returned (.bool (!decide (x ∈ F))) ∧ w = w' := by
 have HC := Lib.hid (sr_kids1_c f fa fc F x w h)
 clear h
 go_enter Tryz.func86, Tryz.ntmps86
 go_wp2_with (go_at_call 84; ((with_reducible refine HC.out.mono ?_); rintro e w1 ⟨rfl, rfl⟩))
 go_ret
 exact ⟨rfl, rfl⟩
namespace Sr
open Rc hiding bys
open Qr
def EvalC (P MI MF nI : Nat) (T : List Ix.PT) (xa : Option Addr) (xc : Nat) (l : List Rd) (la : Option Addr) (lc B : Nat) (q : Qy) : Prop :=
 ∀ (cs : List Value) (w : World), QC B w q cs → Ev w P MI MF nI T xa xc l la lc →
  Calls Tryz.prog 37 #[.pointer (some ⟨P, 0, none⟩), .agg cs.toArray] w fun e w' => ∃ v, e = .returned v ∧ Ix.OwnI w' w.heap.size v (evalQ (T.map (·.1)) l q) ∧ Below w.heap.size w w'
def evT (o : Int) (lf : Qy → Bool) (ks : List Qy) : Bool := if o = 5 then evAll lf ks else if o = 6 then evAny lf ks else evNot lf ks
theorem evT_one (o : Int) (ho : o = 5 ∨ o = 6 ∨ o = 7) (lf : Qy → Bool) (x : Qy) : evT o lf [x] = ev lf x := by
 rcases ho with rfl | rfl | rfl
 ·show (ev lf x && true) = _; rw [Bool.and_true]
 ·show (ev lf x || false) = _; rw [Bool.or_false]
 ·show (ev lf x && !false) = _; rw [Bool.not_false, Bool.and_true]
theorem evT_5 (lf : Qy → Bool) (ks : List Qy) (x : Qy) : evT 5 lf (ks ++ [x]) = (evT 5 lf ks && ev lf x) := by
 show evAll lf _ = (evAll lf ks && _)
 rw [evAll_eq, evAll_eq, List.all_append]; simp
theorem evT_6 (lf : Qy → Bool) (ks : List Qy) (x : Qy) : evT 6 lf (ks ++ [x]) = (evT 6 lf ks || ev lf x) := by
 show evAny lf _ = (evAny lf ks || _)
 rw [evAny_eq, evAny_eq, List.any_append]; simp
theorem evT_7 (lf : Qy → Bool) (ks : List Qy) (x : Qy) (h : ks ≠ []) : evT 7 lf (ks ++ [x]) = (evT 7 lf ks && !ev lf x) := by
 cases ks with
 | nil => exact absurd rfl h
 | cons y r =>
  show (ev lf y && !evAny lf (r ++ [x])) = ((ev lf y && !evAny lf r) && !ev lf x)
  rw [evAny_eq, evAny_eq, List.any_append, List.any_cons, List.any_nil, Bool.or_false, Bool.not_or, Bool.and_assoc]
theorem ev_T (o : Int) (ho : o = 5 ∨ o = 6 ∨ o = 7) (lf : Qy → Bool) (ks : List Qy) : ev lf (.mk o 0 [] 0 0 ks) = evT o lf ks := by
 rcases ho with rfl | rfl | rfl <;> rfl
theorem fd_in64 {l : List Rd} (hR : ∀ r ∈ l, Rg r) {p : Rd → Bool} {out : List Int} (h : Fd l p out) : ∀ n ∈ out, In64 n := fun n hn => by
 obtain ⟨r, hr, _, rfl⟩ := (h n).1 hn
 have := (hR r hr).ids
 unfold In64
 omega
end Sr
set_option maxHeartbeats 3200000 in
theorem sr_kids_5 (P MI MF nI : Nat) (T : List Ix.PT) (xa : Option Addr) (xc : Nat) (l : List Rc.Rd) (la : Option Addr) (lc : Nat) (B : Nat) (ks : List Qr.Qy) (sa : Option Addr) (sc : Nat) (ka : Option Addr) (kc : Nat) (w : World) (hE : Sr.Ev w P MI MF nI T xa xc l la lc) (hR : ∀ r ∈ l, Sr.Rg r) (hD : Ix.Dist l) (hl : l.length ≤ 1000000) (hK : Qr.KA B w ka kc ks) (hkn : 1 ≤ ks.length ∧ ks.length ≤ 8) (IH : ∀ k ∈ ks, Sr.EvalC P MI MF nI T xa xc l la lc B k) :
  Calls Tryz.prog 36 #[.pointer (some ⟨P, 0, none⟩), .agg #[.int .i64 5, .int .i64 0, .slice sa 0 sc, .int .i64 0, .int .i64 0, .slice ka ks.length kc]] w fun e w' => ∃ v out, e = .returned v ∧ Ix.OwnI w' w.heap.size v out ∧ Sr.Fd l (fun r => Sr.ev (Sr.leafX (T.map (·.1)) r) (.mk 5 0 [] 0 0 ks)) out ∧ out.length ≤ 1000000000000 ∧ Below w.heap.size w w' := by
 have hml : maxLen = 9223372036854775807 := rfl
 have hmf : ∀ (fn : Fn) (first cap : Array Value) (w : World), (Instr.makeFunc fn first cap).run Tryz.prog w = .ok (.func fn first cap) w := fun _ _ _ _ => rfl
 obtain ⟨i0, hi0, hz0, hz1, hz2⟩ := info_parts info_int
 have HI0 := Lib.hid hi0
 clear hi0
 obtain ⟨W, hW⟩ : ∃ W, w.alloc (.cells #[.int .i64 5, .int .i64 0, .slice sa 0 sc, .int .i64 0, .int .i64 0, .slice ka ks.length kc] 29) = W := ⟨_, rfl⟩
 have hB : Below w.heap.size w W := by rw [← hW]; exact Tx.newb _ _
 have d0 : W.cell? ⟨w.heap.size, 0, none⟩ = some (.int .i64 5) := by rw [← hW]; simp
 have d1 : W.cell? ⟨w.heap.size, 1, none⟩ = some (.int .i64 0) := by rw [← hW]; simp
 have d2 : W.cell? ⟨w.heap.size, 2, none⟩ = some (.slice sa 0 sc) := by rw [← hW]; simp
 have d3 : W.cell? ⟨w.heap.size, 3, none⟩ = some (.int .i64 0) := by rw [← hW]; simp
 have d4 : W.cell? ⟨w.heap.size, 4, none⟩ = some (.int .i64 0) := by rw [← hW]; simp
 have d5 : W.cell? ⟨w.heap.size, 5, none⟩ = some (.slice ka ks.length kc) := by rw [← hW]; simp
 have hWs := hB.size
 have HKA := Lib.hid (hK.below hB)
 have HEV := Lib.hid (hE.below hB)
 have HIH := Lib.hid IH
 have HDI := Lib.hid hD
 have HRG := Lib.hid hR
 have hmax := hK.max
 clear hE hK IH hD hR
 go_enter Tryz.func36, Tryz.ntmps36
 go_wp2
 clear hW
 go_loopw [5, 6, 7, 8, 9, 13] (fun s5 _ _ _ _ i wr => ∃ (k : Nat) (L : List Int) (ov : Value), ov = s5 ∧ k ≤ ks.length ∧ i = .int .i64 k ∧ Hid (k = 0 → L = []) ∧ Hid (1 ≤ k → Sr.Fd l (fun r => Sr.evT 5 (Sr.leafX (T.map (·.1)) r) (ks.take k)) L) ∧ L.length ≤ 1000000 * k ∧ Hid (Ix.OwnI wr W.heap.size ov L) ∧ Below W.heap.size W wr) (fun _ _ _ _ _ i _ => ks.length - (intOf i).toNat)
 case atStart => exact ⟨0, [], _, rfl, Nat.zero_le _, rfl, Lib.hid (fun _ => rfl), Lib.hid (fun h => absurd h (by decide)), Nat.zero_le _, Lib.hid (World.ownsRow_nil _ _ _ _), Below.refl _ _⟩
 case round =>
  obtain ⟨k, L, ov, hov, hk, rfl, hL0, hL1, hLk, hown, hb⟩ := hrel
  subst hov
  have hbs := hb.size
  by_cases hlt : k < ks.length
  ·obtain ⟨x, hx⟩ : ∃ x, ks[k]? = some x := ⟨_, List.getElem?_eq_getElem hlt⟩
   obtain ⟨kb, ko, xsa, xsc, xka, xkc, rfl, hkb, k0, k1, k2, k3, k4, k5, hq⟩ := (HKA.out.below hb).get hx
   have htk := Qr.take_snoc hx
   have hxm := List.mem_of_getElem? hx
   obtain ⟨U, hU⟩ : ∃ U, wr.alloc (.cells #[.int .i64 x.op, .int .i64 x.fld, .slice xsa x.ws.length xsc, .int .i64 x.a, .int .i64 x.b, .slice xka x.ks.length xkc] 29) = U := ⟨_, rfl⟩
   have hbU1 : Below wr.heap.size wr U := by rw [← hU]; exact Tx.newb _ _
   have hbU : Below W.heap.size W U := Tx.step hb hbU1
   have hbUs := hbU.size
   have hUs : U.heap.size = wr.heap.size + 1 := by rw [← hU]; simp
   have y0 : U.cell? ⟨wr.heap.size, 0, none⟩ = some (.int .i64 x.op) := by rw [← hU]; simp
   have y1 : U.cell? ⟨wr.heap.size, 1, none⟩ = some (.int .i64 x.fld) := by rw [← hU]; simp
   have y2 : U.cell? ⟨wr.heap.size, 2, none⟩ = some (.slice xsa x.ws.length xsc) := by rw [← hU]; simp
   have y3 : U.cell? ⟨wr.heap.size, 3, none⟩ = some (.int .i64 x.a) := by rw [← hU]; simp
   have y4 : U.cell? ⟨wr.heap.size, 4, none⟩ = some (.int .i64 x.b) := by rw [← hU]; simp
   have y5 : U.cell? ⟨wr.heap.size, 5, none⟩ = some (.slice xka x.ks.length xkc) := by rw [← hU]; simp
   have HOU := Lib.hid (own_below hown.out hbU1)
   have hqU := hq.later hbU1
   have EC := HIH.out x hxm _ U hqU (HEV.out.below hbU)
   obtain ⟨FF, hFF⟩ : ∃ FF, Sr.evalQ (T.map (·.1)) l x = FF := ⟨_, rfl⟩
   have hFd := Sr.evalQ_fd (T.map (·.1)) l x
   have hFl := Sr.evalQ_len (T.map (·.1)) l x
   rw [hFF] at EC hFd hFl
   have HEC := Lib.hid EC
   have HFD := Lib.hid hFd
   have HTK := Lib.hid htk
   have HLK := Lib.hid (fun g hg => (hown.out.lt g hg))
   have d0' := cell_later hbU d0
   clear EC hFd hFF htk hxm hq hqU hx hown
   have hFl2 : FF.length ≤ 1000000 := by omega
   rcases (by omega : k = 0 ∨ 1 ≤ k) with hk0 | hk1
   ·subst hk0
    simp only [Nat.zero_mul, Nat.add_zero] at k0 k1 k2 k3 k4 k5
    go_wp2_with (go_at_call 37; ((with_reducible refine HEC.out.mono ?_); rintro e w1 ⟨v1, rfl, ho1, hb1⟩; obtain ⟨fa, fc, rfl, hia, hlow⟩ := Ix.IA.of_own ho1 rfl; have HO1 := Lib.hid ho1; have hb1s := hb1.size; clear ho1 hia hlow))
    go_roundw
    case rel => exact ⟨1, FF, _, rfl, hlt, by go_num, Lib.hid (fun h => absurd h (by decide)), Lib.hid (fun _ => HFD.out.congr fun r _ => by rw [HTK.out, List.take_zero, List.nil_append, Sr.evT_one 5 (by omega)]), by omega, Lib.hid (Sr.ownI_le ((HO1.out.alloc _).alloc _) hbUs), ((Tx.step hbU hb1).alloc (by omega) _).alloc (by simp; omega) _⟩
    case measure => simp [intOf]; omega
   ·have hk0 : ((k : Int) == 0) = false := beq_eq_false_iff_ne.2 (by omega)
    have hPd : Sr.Fd l (fun r => Sr.evT 5 (Sr.leafX (T.map (·.1)) r) (ks.take k)) L := hL1.out hk1
    have hin := Sr.fd_in64 HRG.out hPd
    have HPD := Lib.hid hPd
    have HIN := Lib.hid hin
    clear hPd hin hL1 hL0
    go_wp2_with (first
     | (go_at_call 85; ((with_reducible refine HDL.out.mono ?_); rintro e w5 ⟨v5, rfl, ho5, hv5, hg5⟩; have HO5 := Lib.hid ho5; have HB5 := Lib.hid (HB3.out.grown hg5 HB3.out.size (fun i hi => (HVL.out i hi).1)); clear ho5 hg5))
     | (go_at_call 37; ((with_reducible refine HEC.out.mono ?_); rintro e w1 ⟨v1, rfl, ho1, hb1⟩; obtain ⟨fa, fc, rfl, hia, hlow⟩ := Ix.IA.of_own ho1 rfl; have hb1s := hb1.size; obtain ⟨U3, hU3⟩ : ∃ U3, (w1.alloc (.cells #[.slice fa FF.length fc] 35)).alloc (.cells #[.func (.func 84) #[] #[.pointer (some ⟨w1.heap.size, 0, none⟩)]] 104) = U3 := ⟨_, rfl⟩; have hb3 : Below w1.heap.size w1 U3 := (by rw [← hU3]; exact (Tx.newb _ _).alloc (by simp) _); have hb3s := hb3.size; have hU3s : U3.heap.size = w1.heap.size + 2 := (by rw [← hU3]; simp); have f0 : U3.cell? ⟨w1.heap.size, 0, none⟩ = some (.slice fa FF.length fc) := (by rw [← hU3]; simp); have f1 : U3.cell? ⟨w1.heap.size + 1, 0, none⟩ = some (.func (.func 84) #[] #[.pointer (some ⟨w1.heap.size, 0, none⟩)]) := (by rw [← hU3]; simp); have e0 := cell_later hb3 (cell_later hb1 d0'); have HOV := Lib.hid (own_below (own_below HOU.out hb1) hb3); have HIA3 := Lib.hid (hia.below hb3); have HLW := Lib.hid hlow; have HB3 := Lib.hid (Tx.step (Tx.step hbU hb1) hb3); have HVL : Hid (∀ g, ov.ownBlock = some g → W.heap.size ≤ g ∧ g < wr.heap.size) := HLK; have HDL : Hid (Calls Tryz.prog 85 #[ov, .func (.func 86) #[] #[.pointer (some ⟨w1.heap.size + 1, 0, none⟩)]] U3 fun e w' => ∃ v', e = .returned v' ∧ Ix.OwnI w' W.heap.size v' (L.filter fun x => !(fun x => !decide (x ∈ FF)) x) ∧ v'.ownBlock = ov.ownBlock ∧ U3.grownBy w' ov.ownBlock) := Lib.hid (have hne : ∀ b, wr.heap.size ≤ b → some b ≠ ov.ownBlock := (fun b hb9 e9 => by have := (HVL.out b e9.symm).2; omega); have hneF : ∀ ad, fa = some ad → some ad.block ≠ ov.ownBlock := (fun ad had => hne _ (by have := HLW.out ad had; omega)); have hC3 : Sr.CapF U3 w1.heap.size fa fc FF := ⟨f0, HIA3.out⟩; delI_c 86 #[.pointer (some ⟨w1.heap.size + 1, 0, none⟩)] sr_kids2_enters (fun x => !decide (x ∈ FF)) L ov W.heap.size U3 HOV.out HIN.out (by omega) (fun x _ W' hg => (sr_kids2_c (w1.heap.size + 1) w1.heap.size fa fc FF x W' (hC3.grown hg (hne _ (by omega)) hneF) ((World.cell?_of_block (hg.block _ (by show w1.heap.size + 1 < U3.heap.size; omega) (hne _ (by show wr.heap.size ≤ w1.heap.size + 1; omega)))).trans f1)).mono (fun e w' h9 => ⟨h9.1, 0, h9.2.symm⟩))); clear ho1 hia hlow)))
    go_roundw
    case rel => exact ⟨k + 1, (L.filter fun x => !(fun x => !decide (x ∈ FF)) x), _, rfl, hlt, by go_num, Lib.hid (fun h => absurd h (by omega)), Lib.hid (fun _ => by
     show Sr.Fd l _ (L.filter _)
     have e9 : (L.filter fun x => !(!decide (x ∈ FF))) = L.filter fun n => decide (n ∈ FF) := by congr 1; funext x; rw [Bool.not_not]
     show Sr.Fd l _ (L.filter fun x => !(!decide (x ∈ FF)))
     rw [e9]
     exact (Sr.Fd.and HDI.out HPD.out HFD.out).congr fun r _ => by rw [HTK.out, Sr.evT_5]), by have := List.length_filter_le (fun x => !(fun x => !decide (x ∈ FF)) x) L; omega, HO5, HB5.out⟩
    case measure => simp [intOf]; omega
  ·obtain rfl : k = ks.length := by omega
   have hfin : Sr.Fd l (fun r => Sr.ev (Sr.leafX (T.map (·.1)) r) (.mk 5 0 [] 0 0 ks)) L := (hL1.out hkn.1).congr fun r _ => by rw [List.take_length, Sr.ev_T 5 (by omega)]
   have HFN := Lib.hid hfin
   clear hfin
   go_wp2
   go_ret
   exact ⟨_, _, rfl, Sr.ownI_le hown.out (by omega), HFN.out, by omega, Tx.step hB hb⟩
set_option maxHeartbeats 3200000 in
theorem sr_kids_6 (P MI MF nI : Nat) (T : List Ix.PT) (xa : Option Addr) (xc : Nat) (l : List Rc.Rd) (la : Option Addr) (lc : Nat) (B : Nat) (ks : List Qr.Qy) (sa : Option Addr) (sc : Nat) (ka : Option Addr) (kc : Nat) (w : World) (hE : Sr.Ev w P MI MF nI T xa xc l la lc) (hR : ∀ r ∈ l, Sr.Rg r) (hD : Ix.Dist l) (hl : l.length ≤ 1000000) (hK : Qr.KA B w ka kc ks) (hkn : 1 ≤ ks.length ∧ ks.length ≤ 8) (IH : ∀ k ∈ ks, Sr.EvalC P MI MF nI T xa xc l la lc B k) :
  Calls Tryz.prog 36 #[.pointer (some ⟨P, 0, none⟩), .agg #[.int .i64 6, .int .i64 0, .slice sa 0 sc, .int .i64 0, .int .i64 0, .slice ka ks.length kc]] w fun e w' => ∃ v out, e = .returned v ∧ Ix.OwnI w' w.heap.size v out ∧ Sr.Fd l (fun r => Sr.ev (Sr.leafX (T.map (·.1)) r) (.mk 6 0 [] 0 0 ks)) out ∧ out.length ≤ 1000000000000 ∧ Below w.heap.size w w' := by
 have hml : maxLen = 9223372036854775807 := rfl
 have hmf : ∀ (fn : Fn) (first cap : Array Value) (w : World), (Instr.makeFunc fn first cap).run Tryz.prog w = .ok (.func fn first cap) w := fun _ _ _ _ => rfl
 obtain ⟨i0, hi0, hz0, hz1, hz2⟩ := info_parts info_int
 have HI0 := Lib.hid hi0
 clear hi0
 obtain ⟨W, hW⟩ : ∃ W, w.alloc (.cells #[.int .i64 6, .int .i64 0, .slice sa 0 sc, .int .i64 0, .int .i64 0, .slice ka ks.length kc] 29) = W := ⟨_, rfl⟩
 have hB : Below w.heap.size w W := by rw [← hW]; exact Tx.newb _ _
 have d0 : W.cell? ⟨w.heap.size, 0, none⟩ = some (.int .i64 6) := by rw [← hW]; simp
 have d1 : W.cell? ⟨w.heap.size, 1, none⟩ = some (.int .i64 0) := by rw [← hW]; simp
 have d2 : W.cell? ⟨w.heap.size, 2, none⟩ = some (.slice sa 0 sc) := by rw [← hW]; simp
 have d3 : W.cell? ⟨w.heap.size, 3, none⟩ = some (.int .i64 0) := by rw [← hW]; simp
 have d4 : W.cell? ⟨w.heap.size, 4, none⟩ = some (.int .i64 0) := by rw [← hW]; simp
 have d5 : W.cell? ⟨w.heap.size, 5, none⟩ = some (.slice ka ks.length kc) := by rw [← hW]; simp
 have hWs := hB.size
 have HKA := Lib.hid (hK.below hB)
 have HEV := Lib.hid (hE.below hB)
 have HIH := Lib.hid IH
 have HDI := Lib.hid hD
 have HRG := Lib.hid hR
 have hmax := hK.max
 clear hE hK IH hD hR
 go_enter Tryz.func36, Tryz.ntmps36
 go_wp2
 clear hW
 go_loopw [5, 6, 7, 8, 9, 13] (fun s5 _ _ _ _ i wr => ∃ (k : Nat) (L : List Int) (ov : Value), ov = s5 ∧ k ≤ ks.length ∧ i = .int .i64 k ∧ Hid (k = 0 → L = []) ∧ Hid (1 ≤ k → Sr.Fd l (fun r => Sr.evT 6 (Sr.leafX (T.map (·.1)) r) (ks.take k)) L) ∧ L.length ≤ 1000000 * k ∧ Hid (Ix.OwnI wr W.heap.size ov L) ∧ Below W.heap.size W wr) (fun _ _ _ _ _ i _ => ks.length - (intOf i).toNat)
 case atStart => exact ⟨0, [], _, rfl, Nat.zero_le _, rfl, Lib.hid (fun _ => rfl), Lib.hid (fun h => absurd h (by decide)), Nat.zero_le _, Lib.hid (World.ownsRow_nil _ _ _ _), Below.refl _ _⟩
 case round =>
  obtain ⟨k, L, ov, hov, hk, rfl, hL0, hL1, hLk, hown, hb⟩ := hrel
  subst hov
  have hbs := hb.size
  by_cases hlt : k < ks.length
  ·obtain ⟨x, hx⟩ : ∃ x, ks[k]? = some x := ⟨_, List.getElem?_eq_getElem hlt⟩
   obtain ⟨kb, ko, xsa, xsc, xka, xkc, rfl, hkb, k0, k1, k2, k3, k4, k5, hq⟩ := (HKA.out.below hb).get hx
   have htk := Qr.take_snoc hx
   have hxm := List.mem_of_getElem? hx
   obtain ⟨U, hU⟩ : ∃ U, wr.alloc (.cells #[.int .i64 x.op, .int .i64 x.fld, .slice xsa x.ws.length xsc, .int .i64 x.a, .int .i64 x.b, .slice xka x.ks.length xkc] 29) = U := ⟨_, rfl⟩
   have hbU1 : Below wr.heap.size wr U := by rw [← hU]; exact Tx.newb _ _
   have hbU : Below W.heap.size W U := Tx.step hb hbU1
   have hbUs := hbU.size
   have hUs : U.heap.size = wr.heap.size + 1 := by rw [← hU]; simp
   have y0 : U.cell? ⟨wr.heap.size, 0, none⟩ = some (.int .i64 x.op) := by rw [← hU]; simp
   have y1 : U.cell? ⟨wr.heap.size, 1, none⟩ = some (.int .i64 x.fld) := by rw [← hU]; simp
   have y2 : U.cell? ⟨wr.heap.size, 2, none⟩ = some (.slice xsa x.ws.length xsc) := by rw [← hU]; simp
   have y3 : U.cell? ⟨wr.heap.size, 3, none⟩ = some (.int .i64 x.a) := by rw [← hU]; simp
   have y4 : U.cell? ⟨wr.heap.size, 4, none⟩ = some (.int .i64 x.b) := by rw [← hU]; simp
   have y5 : U.cell? ⟨wr.heap.size, 5, none⟩ = some (.slice xka x.ks.length xkc) := by rw [← hU]; simp
   have HOU := Lib.hid (own_below hown.out hbU1)
   have hqU := hq.later hbU1
   have EC := HIH.out x hxm _ U hqU (HEV.out.below hbU)
   obtain ⟨FF, hFF⟩ : ∃ FF, Sr.evalQ (T.map (·.1)) l x = FF := ⟨_, rfl⟩
   have hFd := Sr.evalQ_fd (T.map (·.1)) l x
   have hFl := Sr.evalQ_len (T.map (·.1)) l x
   rw [hFF] at EC hFd hFl
   have HEC := Lib.hid EC
   have HFD := Lib.hid hFd
   have HTK := Lib.hid htk
   have HLK := Lib.hid (fun g hg => (hown.out.lt g hg))
   have d0' := cell_later hbU d0
   clear EC hFd hFF htk hxm hq hqU hx hown
   have hFl2 : FF.length ≤ 1000000 := by omega
   rcases (by omega : k = 0 ∨ 1 ≤ k) with hk0 | hk1
   ·subst hk0
    simp only [Nat.zero_mul, Nat.add_zero] at k0 k1 k2 k3 k4 k5
    go_wp2_with (go_at_call 37; ((with_reducible refine HEC.out.mono ?_); rintro e w1 ⟨v1, rfl, ho1, hb1⟩; obtain ⟨fa, fc, rfl, hia, hlow⟩ := Ix.IA.of_own ho1 rfl; have HO1 := Lib.hid ho1; have hb1s := hb1.size; clear ho1 hia hlow))
    go_roundw
    case rel => exact ⟨1, FF, _, rfl, hlt, by go_num, Lib.hid (fun h => absurd h (by decide)), Lib.hid (fun _ => HFD.out.congr fun r _ => by rw [HTK.out, List.take_zero, List.nil_append, Sr.evT_one 6 (by omega)]), by omega, Lib.hid (Sr.ownI_le ((HO1.out.alloc _).alloc _) hbUs), ((Tx.step hbU hb1).alloc (by omega) _).alloc (by simp; omega) _⟩
    case measure => simp [intOf]; omega
   ·have hk0 : ((k : Int) == 0) = false := beq_eq_false_iff_ne.2 (by omega)
    have hPd : Sr.Fd l (fun r => Sr.evT 6 (Sr.leafX (T.map (·.1)) r) (ks.take k)) L := hL1.out hk1
    have hin := Sr.fd_in64 HRG.out hPd
    have HPD := Lib.hid hPd
    have HIN := Lib.hid hin
    clear hPd hin hL1 hL0
    go_wp2_with (first
     | (at_builtin; go_must ((refine wpList_append_sl rfl _ _ 35 rfl W.heap.size 3 i0 _ 1 8 Tryz.underlying35 HI0.out hz0 hz1 hz2 rfl (by decide) _ L.length _ rfl HOV.out fa FF.length fc (FF.flatMap fun x : Int => [Value.int .i64 x]) rfl (Br.flat_len (fun x : Int => [Value.int .i64 x]) 1 (fun _ => rfl) FF) HIA3.out.none (Br.FA.cells (enc := fun x : Int => [Value.int .i64 x]) (size := 1) (fun _ => rfl) (by decide) HIA3.out) (Br.flat_one (fun _ u hu => by rw [List.mem_singleton] at hu; rw [hu]; rfl) FF) (by unfold maxLen; omega) (by omega) HB3.out.size ?_); intro v8 w8 hown8 hg8 hnil8))
     | (go_at_call 37; ((with_reducible refine HEC.out.mono ?_); rintro e w1 ⟨v1, rfl, ho1, hb1⟩; obtain ⟨fa, fc, rfl, hia, hlow⟩ := Ix.IA.of_own ho1 rfl; have hb1s := hb1.size; obtain ⟨U3, hU3⟩ : ∃ U3, (w1.alloc (.cells #[.slice fa FF.length fc] 35)).alloc (.cells #[.func (.func 84) #[] #[.pointer (some ⟨w1.heap.size, 0, none⟩)]] 104) = U3 := ⟨_, rfl⟩; have hb3 : Below w1.heap.size w1 U3 := (by rw [← hU3]; exact (Tx.newb _ _).alloc (by simp) _); have hb3s := hb3.size; have hU3s : U3.heap.size = w1.heap.size + 2 := (by rw [← hU3]; simp); have f0 : U3.cell? ⟨w1.heap.size, 0, none⟩ = some (.slice fa FF.length fc) := (by rw [← hU3]; simp); have f1 : U3.cell? ⟨w1.heap.size + 1, 0, none⟩ = some (.func (.func 84) #[] #[.pointer (some ⟨w1.heap.size, 0, none⟩)]) := (by rw [← hU3]; simp); have e0 := cell_later hb3 (cell_later hb1 d0'); have HOV := Lib.hid (own_below (own_below HOU.out hb1) hb3); have HIA3 := Lib.hid (hia.below hb3); have HLW := Lib.hid hlow; have HB3 := Lib.hid (Tx.step (Tx.step hbU hb1) hb3); have HVL : Hid (∀ g, ov.ownBlock = some g → W.heap.size ≤ g ∧ g < wr.heap.size) := HLK; clear ho1 hia hlow)))
    go_roundw
    case rel => exact ⟨k + 1, L ++ FF, _, rfl, hlt, by go_num, Lib.hid (fun h => absurd h (by omega)), Lib.hid (fun _ => (HPD.out.or HFD.out).congr fun r _ => by rw [HTK.out, Sr.evT_6]), by rw [List.length_append]; omega, Lib.hid (by unfold Ix.OwnI; rw [List.length_append, List.map_append, ← Ix.flat_int FF]; exact hown8), HB3.out.grown hg8 HB3.out.size (fun i hi => (HVL.out i hi).1)⟩
    case measure => simp [intOf]; omega
  ·obtain rfl : k = ks.length := by omega
   have hfin : Sr.Fd l (fun r => Sr.ev (Sr.leafX (T.map (·.1)) r) (.mk 6 0 [] 0 0 ks)) L := (hL1.out hkn.1).congr fun r _ => by rw [List.take_length, Sr.ev_T 6 (by omega)]
   have HFN := Lib.hid hfin
   clear hfin
   go_wp2
   go_ret
   exact ⟨_, _, rfl, Sr.ownI_le hown.out (by omega), HFN.out, by omega, Tx.step hB hb⟩
set_option maxHeartbeats 3200000 in
theorem sr_kids_7 (P MI MF nI : Nat) (T : List Ix.PT) (xa : Option Addr) (xc : Nat) (l : List Rc.Rd) (la : Option Addr) (lc : Nat) (B : Nat) (ks : List Qr.Qy) (sa : Option Addr) (sc : Nat) (ka : Option Addr) (kc : Nat) (w : World) (hE : Sr.Ev w P MI MF nI T xa xc l la lc) (hR : ∀ r ∈ l, Sr.Rg r) (hD : Ix.Dist l) (hl : l.length ≤ 1000000) (hK : Qr.KA B w ka kc ks) (hkn : 1 ≤ ks.length ∧ ks.length ≤ 8) (IH : ∀ k ∈ ks, Sr.EvalC P MI MF nI T xa xc l la lc B k) :
  Calls Tryz.prog 36 #[.pointer (some ⟨P, 0, none⟩), .agg #[.int .i64 7, .int .i64 0, .slice sa 0 sc, .int .i64 0, .int .i64 0, .slice ka ks.length kc]] w fun e w' => ∃ v out, e = .returned v ∧ Ix.OwnI w' w.heap.size v out ∧ Sr.Fd l (fun r => Sr.ev (Sr.leafX (T.map (·.1)) r) (.mk 7 0 [] 0 0 ks)) out ∧ out.length ≤ 1000000000000 ∧ Below w.heap.size w w' := by
 have hml : maxLen = 9223372036854775807 := rfl
 have hmf : ∀ (fn : Fn) (first cap : Array Value) (w : World), (Instr.makeFunc fn first cap).run Tryz.prog w = .ok (.func fn first cap) w := fun _ _ _ _ => rfl
 obtain ⟨i0, hi0, hz0, hz1, hz2⟩ := info_parts info_int
 have HI0 := Lib.hid hi0
 clear hi0
 obtain ⟨W, hW⟩ : ∃ W, w.alloc (.cells #[.int .i64 7, .int .i64 0, .slice sa 0 sc, .int .i64 0, .int .i64 0, .slice ka ks.length kc] 29) = W := ⟨_, rfl⟩
 have hB : Below w.heap.size w W := by rw [← hW]; exact Tx.newb _ _
 have d0 : W.cell? ⟨w.heap.size, 0, none⟩ = some (.int .i64 7) := by rw [← hW]; simp
 have d1 : W.cell? ⟨w.heap.size, 1, none⟩ = some (.int .i64 0) := by rw [← hW]; simp
 have d2 : W.cell? ⟨w.heap.size, 2, none⟩ = some (.slice sa 0 sc) := by rw [← hW]; simp
 have d3 : W.cell? ⟨w.heap.size, 3, none⟩ = some (.int .i64 0) := by rw [← hW]; simp
 have d4 : W.cell? ⟨w.heap.size, 4, none⟩ = some (.int .i64 0) := by rw [← hW]; simp
 have d5 : W.cell? ⟨w.heap.size, 5, none⟩ = some (.slice ka ks.length kc) := by rw [← hW]; simp
 have hWs := hB.size
 have HKA := Lib.hid (hK.below hB)
 have HEV := Lib.hid (hE.below hB)
 have HIH := Lib.hid IH
 have HDI := Lib.hid hD
 have HRG := Lib.hid hR
 have hmax := hK.max
 clear hE hK IH hD hR
 go_enter Tryz.func36, Tryz.ntmps36
 go_wp2
 clear hW
 go_loopw [5, 6, 7, 8, 9, 13] (fun s5 _ _ _ _ i wr => ∃ (k : Nat) (L : List Int) (ov : Value), ov = s5 ∧ k ≤ ks.length ∧ i = .int .i64 k ∧ Hid (k = 0 → L = []) ∧ Hid (1 ≤ k → Sr.Fd l (fun r => Sr.evT 7 (Sr.leafX (T.map (·.1)) r) (ks.take k)) L) ∧ L.length ≤ 1000000 * k ∧ Hid (Ix.OwnI wr W.heap.size ov L) ∧ Below W.heap.size W wr) (fun _ _ _ _ _ i _ => ks.length - (intOf i).toNat)
 case atStart => exact ⟨0, [], _, rfl, Nat.zero_le _, rfl, Lib.hid (fun _ => rfl), Lib.hid (fun h => absurd h (by decide)), Nat.zero_le _, Lib.hid (World.ownsRow_nil _ _ _ _), Below.refl _ _⟩
 case round =>
  obtain ⟨k, L, ov, hov, hk, rfl, hL0, hL1, hLk, hown, hb⟩ := hrel
  subst hov
  have hbs := hb.size
  by_cases hlt : k < ks.length
  ·obtain ⟨x, hx⟩ : ∃ x, ks[k]? = some x := ⟨_, List.getElem?_eq_getElem hlt⟩
   obtain ⟨kb, ko, xsa, xsc, xka, xkc, rfl, hkb, k0, k1, k2, k3, k4, k5, hq⟩ := (HKA.out.below hb).get hx
   have htk := Qr.take_snoc hx
   have hxm := List.mem_of_getElem? hx
   obtain ⟨U, hU⟩ : ∃ U, wr.alloc (.cells #[.int .i64 x.op, .int .i64 x.fld, .slice xsa x.ws.length xsc, .int .i64 x.a, .int .i64 x.b, .slice xka x.ks.length xkc] 29) = U := ⟨_, rfl⟩
   have hbU1 : Below wr.heap.size wr U := by rw [← hU]; exact Tx.newb _ _
   have hbU : Below W.heap.size W U := Tx.step hb hbU1
   have hbUs := hbU.size
   have hUs : U.heap.size = wr.heap.size + 1 := by rw [← hU]; simp
   have y0 : U.cell? ⟨wr.heap.size, 0, none⟩ = some (.int .i64 x.op) := by rw [← hU]; simp
   have y1 : U.cell? ⟨wr.heap.size, 1, none⟩ = some (.int .i64 x.fld) := by rw [← hU]; simp
   have y2 : U.cell? ⟨wr.heap.size, 2, none⟩ = some (.slice xsa x.ws.length xsc) := by rw [← hU]; simp
   have y3 : U.cell? ⟨wr.heap.size, 3, none⟩ = some (.int .i64 x.a) := by rw [← hU]; simp
   have y4 : U.cell? ⟨wr.heap.size, 4, none⟩ = some (.int .i64 x.b) := by rw [← hU]; simp
   have y5 : U.cell? ⟨wr.heap.size, 5, none⟩ = some (.slice xka x.ks.length xkc) := by rw [← hU]; simp
   have HOU := Lib.hid (own_below hown.out hbU1)
   have hqU := hq.later hbU1
   have EC := HIH.out x hxm _ U hqU (HEV.out.below hbU)
   obtain ⟨FF, hFF⟩ : ∃ FF, Sr.evalQ (T.map (·.1)) l x = FF := ⟨_, rfl⟩
   have hFd := Sr.evalQ_fd (T.map (·.1)) l x
   have hFl := Sr.evalQ_len (T.map (·.1)) l x
   rw [hFF] at EC hFd hFl
   have HEC := Lib.hid EC
   have HFD := Lib.hid hFd
   have HTK := Lib.hid htk
   have HLK := Lib.hid (fun g hg => (hown.out.lt g hg))
   have d0' := cell_later hbU d0
   clear EC hFd hFF htk hxm hq hqU hx hown
   have hFl2 : FF.length ≤ 1000000 := by omega
   rcases (by omega : k = 0 ∨ 1 ≤ k) with hk0 | hk1
   ·subst hk0
    simp only [Nat.zero_mul, Nat.add_zero] at k0 k1 k2 k3 k4 k5
    go_wp2_with (go_at_call 37; ((with_reducible refine HEC.out.mono ?_); rintro e w1 ⟨v1, rfl, ho1, hb1⟩; obtain ⟨fa, fc, rfl, hia, hlow⟩ := Ix.IA.of_own ho1 rfl; have HO1 := Lib.hid ho1; have hb1s := hb1.size; clear ho1 hia hlow))
    go_roundw
    case rel => exact ⟨1, FF, _, rfl, hlt, by go_num, Lib.hid (fun h => absurd h (by decide)), Lib.hid (fun _ => HFD.out.congr fun r _ => by rw [HTK.out, List.take_zero, List.nil_append, Sr.evT_one 7 (by omega)]), by omega, Lib.hid (Sr.ownI_le ((HO1.out.alloc _).alloc _) hbUs), ((Tx.step hbU hb1).alloc (by omega) _).alloc (by simp; omega) _⟩
    case measure => simp [intOf]; omega
   ·have hk0 : ((k : Int) == 0) = false := beq_eq_false_iff_ne.2 (by omega)
    have hPd : Sr.Fd l (fun r => Sr.evT 7 (Sr.leafX (T.map (·.1)) r) (ks.take k)) L := hL1.out hk1
    have hin := Sr.fd_in64 HRG.out hPd
    have HPD := Lib.hid hPd
    have HIN := Lib.hid hin
    clear hPd hin hL1 hL0
    go_wp2_with (first
     | (go_at_call 85; ((with_reducible refine HDL.out.mono ?_); rintro e w5 ⟨v5, rfl, ho5, hv5, hg5⟩; have HO5 := Lib.hid ho5; have HB5 := Lib.hid (HB3.out.grown hg5 HB3.out.size (fun i hi => (HVL.out i hi).1)); clear ho5 hg5))
     | (go_at_call 37; ((with_reducible refine HEC.out.mono ?_); rintro e w1 ⟨v1, rfl, ho1, hb1⟩; obtain ⟨fa, fc, rfl, hia, hlow⟩ := Ix.IA.of_own ho1 rfl; have hb1s := hb1.size; obtain ⟨U3, hU3⟩ : ∃ U3, (w1.alloc (.cells #[.slice fa FF.length fc] 35)).alloc (.cells #[.func (.func 84) #[] #[.pointer (some ⟨w1.heap.size, 0, none⟩)]] 104) = U3 := ⟨_, rfl⟩; have hb3 : Below w1.heap.size w1 U3 := (by rw [← hU3]; exact (Tx.newb _ _).alloc (by simp) _); have hb3s := hb3.size; have hU3s : U3.heap.size = w1.heap.size + 2 := (by rw [← hU3]; simp); have f0 : U3.cell? ⟨w1.heap.size, 0, none⟩ = some (.slice fa FF.length fc) := (by rw [← hU3]; simp); have f1 : U3.cell? ⟨w1.heap.size + 1, 0, none⟩ = some (.func (.func 84) #[] #[.pointer (some ⟨w1.heap.size, 0, none⟩)]) := (by rw [← hU3]; simp); have e0 := cell_later hb3 (cell_later hb1 d0'); have HOV := Lib.hid (own_below (own_below HOU.out hb1) hb3); have HIA3 := Lib.hid (hia.below hb3); have HLW := Lib.hid hlow; have HB3 := Lib.hid (Tx.step (Tx.step hbU hb1) hb3); have HVL : Hid (∀ g, ov.ownBlock = some g → W.heap.size ≤ g ∧ g < wr.heap.size) := HLK; have HDL : Hid (Calls Tryz.prog 85 #[ov, .func (.func 84) #[] #[.pointer (some ⟨w1.heap.size, 0, none⟩)]] U3 fun e w' => ∃ v', e = .returned v' ∧ Ix.OwnI w' W.heap.size v' (L.filter fun x => !(fun x => decide (x ∈ FF)) x) ∧ v'.ownBlock = ov.ownBlock ∧ U3.grownBy w' ov.ownBlock) := Lib.hid (have hne : ∀ b, wr.heap.size ≤ b → some b ≠ ov.ownBlock := (fun b hb9 e9 => by have := (HVL.out b e9.symm).2; omega); have hneF : ∀ ad, fa = some ad → some ad.block ≠ ov.ownBlock := (fun ad had => hne _ (by have := HLW.out ad had; omega)); have hC3 : Sr.CapF U3 w1.heap.size fa fc FF := ⟨f0, HIA3.out⟩; delI_c 84 #[.pointer (some ⟨w1.heap.size, 0, none⟩)] sr_kids1_enters (fun x => decide (x ∈ FF)) L ov W.heap.size U3 HOV.out HIN.out (by omega) (fun x _ W' hg => (sr_kids1_c w1.heap.size fa fc FF x W' (hC3.grown hg (hne _ (by omega)) hneF)).mono (fun e w' h9 => ⟨h9.1, 0, h9.2.symm⟩))); clear ho1 hia hlow)))
    go_roundw
    case rel => exact ⟨k + 1, (L.filter fun x => !(fun x => decide (x ∈ FF)) x), _, rfl, hlt, by go_num, Lib.hid (fun h => absurd h (by omega)), Lib.hid (fun _ => by
     show Sr.Fd l _ (L.filter _)
     skip
     show Sr.Fd l _ (L.filter fun x => !decide (x ∈ FF))
     skip
     exact (Sr.Fd.not HDI.out HPD.out HFD.out).congr fun r _ => by rw [HTK.out, Sr.evT_7 _ _ _ (fun e => by have := congrArg List.length e; rw [List.length_take, List.length_nil] at this; omega)]), by have := List.length_filter_le (fun x => !(fun x => decide (x ∈ FF)) x) L; omega, HO5, HB5.out⟩
    case measure => simp [intOf]; omega
  ·obtain rfl : k = ks.length := by omega
   have hfin : Sr.Fd l (fun r => Sr.ev (Sr.leafX (T.map (·.1)) r) (.mk 7 0 [] 0 0 ks)) L := (hL1.out hkn.1).congr fun r _ => by rw [List.take_length, Sr.ev_T 7 (by omega)]
   have HFN := Lib.hid hfin
   clear hfin
   go_wp2
   go_ret
   exact ⟨_, _, rfl, Sr.ownI_le hown.out (by omega), HFN.out, by omega, Tx.step hB hb⟩
end Go.Proofs.YtlakomilichhnaaGreatDoor
namespace Go.Proofs.YtlakomilichhnaaGreatDoor
open Go.RowKit
set_option maxRecDepth 100000
theorem Sr.fzero (w : World) : (zeroValue 66).run Tryz.prog w = .ok .nilFunc w := by kernel_rfl
set_option maxHeartbeats 3200000 in
theorem sr_eval_of (P MI MF nI : Nat) (T : List Ix.PT) (xa : Option Addr) (xc : Nat) (l : List Rc.Rd) (la : Option Addr) (lc : Nat) (B : Nat) (q : Qr.Qy) (cs : List Value) (w : World) (hq : Qr.QC B w q cs) (hE : Sr.Ev w P MI MF nI T xa xc l la lc) (fn : Nat) (eg : ∀ args w, (callFunc fn args).run Tryz.prog w = .ok (.enter fn args) w) (hop : Sr.findF P (.int .i64 q.op) = some (.func (.func fn) #[.pointer (some ⟨P, 0, none⟩)] #[])) (hi : Sr.In64 q.op)
  (FC : ∀ w', Below w.heap.size w w' → Calls Tryz.prog fn #[.pointer (some ⟨P, 0, none⟩), .agg cs.toArray] w' fun e w'' => ∃ v out, e = .returned v ∧ Ix.OwnI w'' w'.heap.size v out ∧ Sr.Fd l (fun r => Sr.ev (Sr.leafX (T.map (·.1)) r) q) out ∧ out.length ≤ 1000000000000 ∧ Below w'.heap.size w' w'') :
  Calls Tryz.prog 37 #[.pointer (some ⟨P, 0, none⟩), .agg cs.toArray] w fun e w' => ∃ v, e = .returned v ∧ Ix.OwnI w' w.heap.size v (Sr.evalQ (T.map (·.1)) l q) ∧ Below w.heap.size w w' := by
 obtain ⟨sa, sc, ka, kc, rfl, _, _, _⟩ := hq.kids
 obtain ⟨W, hW⟩ : ∃ W, w.alloc (.cells #[.int .i64 q.op, .int .i64 q.fld, .slice sa q.ws.length sc, .int .i64 q.a, .int .i64 q.b, .slice ka q.ks.length kc] 29) = W := ⟨_, rfl⟩
 have hB : Below w.heap.size w W := by rw [← hW]; exact Tx.newb _ _
 have d0 : W.cell? ⟨w.heap.size, 0, none⟩ = some (.int .i64 q.op) := by rw [← hW]; simp
 have d1 : W.cell? ⟨w.heap.size, 1, none⟩ = some (.int .i64 q.fld) := by rw [← hW]; simp
 have d2 : W.cell? ⟨w.heap.size, 2, none⟩ = some (.slice sa q.ws.length sc) := by rw [← hW]; simp
 have d3 : W.cell? ⟨w.heap.size, 3, none⟩ = some (.int .i64 q.a) := by rw [← hW]; simp
 have d4 : W.cell? ⟨w.heap.size, 4, none⟩ = some (.int .i64 q.b) := by rw [← hW]; simp
 have d5 : W.cell? ⟨w.heap.size, 5, none⟩ = some (.slice ka q.ks.length kc) := by rw [← hW]; simp
 have hEW := hE.below hB
 have hWs := hB.size
 have p3 := hEW.c3
 have hrun : ∀ n, (Instr.lookup 63 (.map (some MF)) (.int .i64 q.op) true).run Tryz.prog (W.drewN n) = .ok (.tuple #[.func (.func fn) #[.pointer (some ⟨P, 0, none⟩)] #[], .bool true]) (W.drewN n) := fun n => by
  have h1 := (hEW.mf.below (Tx.below_drewN (Below.refl _ _) n)).look_ok Ix.nkey Tryz.underlying63 (Sr.fzero _) (Sr.in64_key hi) (v := .func (.func fn) #[.pointer (some ⟨P, 0, none⟩)] #[]) (by rw [hop]; rfl)
  rw [hop] at h1
  exact h1
 have HFC := Lib.hid FC
 have HFP : Hid (∀ out, Sr.Fd l (fun r => Sr.ev (Sr.leafX (T.map (·.1)) r) q) out → Cp.puts Cp.ltI out = Sr.evalQ (T.map (·.1)) l q) := Lib.hid (fun out h => h.puts)
 obtain ⟨R, hR⟩ : ∃ R, Sr.evalQ (T.map (·.1)) l q = R := ⟨_, rfl⟩
 rw [hR] at HFP ⊢
 clear FC hE hEW hq hop hi hR
 go_enter Tryz.func37, Tryz.ntmps37
 go_wp2
 clear hW
 go_quiet (fail)
 have hbq := Tx.below_drewN (Below.refl W.heap.size W) nq
 generalize W.drewN nq = V at hbq ⊢
 replace d0 := cell_later hbq d0
 replace d1 := cell_later hbq d1
 replace d2 := cell_later hbq d2
 replace d3 := cell_later hbq d3
 replace d4 := cell_later hbq d4
 replace d5 := cell_later hbq d5
 have hBV := Tx.step hB hbq
 have hVs := hBV.size
 clear hrun p3 hbq
 go_wp2_with (first
  | (go_at_call 88; ((with_reducible refine (CompactI_c HO3.out (by have := HMl.out; omega)).mono ?_); rintro e w4 ⟨va, vc, rfl, hown4, hv4, hg4⟩; have HO4 := Lib.hid hown4; have HB4 := Lib.hid (HB3.out.grown hg4 HB3.out.size (fun j hj => (HO3.out.lt j hj).1)); clear hown4 hg4))
  | (go_at_call 87; ((with_reducible refine (SortI_c HO2.out (by omega)).mono ?_); rintro e w3 ⟨rfl, hown3, hg3⟩; rw [HMD.out, ← HMl.out] at hown3; have HO3 := Lib.hid hown3; have HB3 := Lib.hid (HB2.out.grown hg3 HB2.out.size (fun j hj => (HO2.out.lt j hj).1)); clear hown3 hg3))
  | (go_at_call 53; ((with_reducible refine (cloneI_c L fa fc _ HIA.out hln).mono ?_); rintro e w2 ⟨v2, rfl, hown2, hb2⟩; have HO2 := Lib.hid (Ix.row_lower hown2 HB1.out.size); have HB2 := Lib.hid (Tx.step HB1.out hb2); clear hown2 hb2))
  | (go_at_fn fn; refine (HFC.out _ hBV).mono ?_; rintro e w1 ⟨v1, L, rfl, ho1, hfd, hln, hb1⟩; obtain ⟨fa, fc, rfl, hia, _⟩ := Ix.IA.of_own ho1 rfl; have HIA := Lib.hid hia; have HB1 := Lib.hid hb1; have hcs := Cp.compact_sortedI L; obtain ⟨M, hMd⟩ : ∃ M, (L.mergeSort fun x y => decide (x ≤ y)) = M := ⟨_, rfl⟩; have hMl : M.length = L.length := (by rw [← hMd, List.length_mergeSort]); rw [hMd, HFP.out L hfd] at hcs; have HCS := Lib.hid hcs; have HMD := Lib.hid hMd; have HMl := Lib.hid hMl; clear hcs hMd hMl hia hb1 ho1 hfd))
 go_ret
 refine ⟨_, rfl, ?_, Tx.step hBV HB4.out⟩
 rw [← HCS.out]
 exact Ix.row_lower HO4.out hVs
namespace Sr
open Rc hiding bys
open Qr
theorem wordF_enters : ∀ args w, (callFunc 34 args).run Tryz.prog w = .ok (.enter 34 args) w := enters_of Tryz.func34 (by kernel_rfl) rfl
theorem yearF_enters : ∀ args w, (callFunc 35 args).run Tryz.prog w = .ok (.enter 35 args) w := enters_of Tryz.func35 (by kernel_rfl) rfl
theorem kidsF_enters : ∀ args w, (callFunc 36 args).run Tryz.prog w = .ok (.enter 36 args) w := enters_of Tryz.func36 (by kernel_rfl) rfl
end Sr
theorem sr_eval_c (P MI MF nI : Nat) (T : List Ix.PT) (xa : Option Addr) (xc : Nat) (l : List Rc.Rd) (la : Option Addr) (lc : Nat) (B : Nat) (hX : Sr.Gx T) (hR : ∀ r ∈ l, Sr.Rg r) (hD : Ix.Dist l) (hl : l.length ≤ 1000000) : ∀ q, Sr.Rq q → (Qr.Wz 1000000 q → Sr.EvalC P MI MF nI T xa xc l la lc B q) := by
 refine Qr.Qy.ind ?_
 intro o f ws a b ks ih hq hM cs w hc hE
 obtain ⟨sa, sc, ka, kc, e, hw, _, hK⟩ := hc.kids
 dsimp only [Qr.Qy.op, Qr.Qy.fld, Qr.Qy.a, Qr.Qy.b, Qr.Qy.ks, Qr.Qy.ws] at e hw hK
 have hS : ∀ w', Below w.heap.size w w' → ws ≠ [] → SLA w' sa sc ws := fun w' hb hne => by
  obtain ⟨a9, c9, e, h9⟩ := (hw.below hb).sla
  injection e with e1 e2 e3
  subst e1 e3
  exact h9 hne
 have hne : 1 ≤ ws.length → ws ≠ [] := fun h9 e => by rw [e] at h9; exact absurd h9 (by decide)
 cases hq with
 | term h1 h2 h3 h5 h4 =>
  refine sr_eval_of P MI MF nI T xa xc l la lc B _ cs w hc hE 34 Sr.wordF_enters (Sr.findF_w P h1) (by unfold Sr.In64; show -9223372036854775808 ≤ o ∧ o ≤ 9223372036854775807; omega) fun w' hb => ?_
  rw [e]
  rcases h1 with rfl | rfl | rfl
  ·obtain ⟨y, rfl⟩ := List.length_eq_one_iff.1 (h5 (by decide))
   exact sr_words_1 P MI MF nI T xa xc l la lc f y sa sc ka kc w' (hE.below hb) hX (hS w' hb (hne h3.1))
  ·obtain ⟨y, rfl⟩ := List.length_eq_one_iff.1 (h5 (by decide))
   exact sr_words_2 P MI MF nI T xa xc l la lc f y sa sc ka kc w' (hE.below hb) hX (hS w' hb (hne h3.1))
  ·exact sr_words_3 P MI MF nI T xa xc l la lc f ws sa sc ka kc w' (hE.below hb) hX (hS w' hb (hne h3.1)) (hne h3.1) h3.2 (fun s hs => Nat.le_trans (hM.ws s hs) (by decide))
 | years h1 h2 =>
  refine sr_eval_of P MI MF nI T xa xc l la lc B _ cs w hc hE 35 Sr.yearF_enters (Sr.findF_y P) (by unfold Sr.In64; show (-9223372036854775808 : Int) ≤ 4 ∧ (4 : Int) ≤ 9223372036854775807; omega) fun w' hb => ?_
  rw [e]
  exact sr_evyears_c P MI MF nI T xa xc l la lc a b sa sc ka kc w' (hE.below hb) hR hl
 | kids h1 h2 h4 h3 =>
  refine sr_eval_of P MI MF nI T xa xc l la lc B _ cs w hc hE 36 Sr.kidsF_enters (Sr.findF_k P h1) (by unfold Sr.In64; show -9223372036854775808 ≤ o ∧ o ≤ 9223372036854775807; omega) fun w' hb => ?_
  rw [e]
  have hkn : 1 ≤ ks.length ∧ ks.length ≤ 8 := by omega
  have hIH : ∀ k ∈ ks, Sr.EvalC P MI MF nI T xa xc l la lc B k := fun k hk => ih k hk (h3 k hk) (hM.ks k hk)
  rcases h1 with rfl | rfl | rfl
  ·exact sr_kids_5 P MI MF nI T xa xc l la lc B ks sa sc ka kc w' (hE.below hb) hR hD hl (hK.below hb) hkn hIH
  ·exact sr_kids_6 P MI MF nI T xa xc l la lc B ks sa sc ka kc w' (hE.below hb) hR hD hl (hK.below hb) hkn hIH
  ·exact sr_kids_7 P MI MF nI T xa xc l la lc B ks sa sc ka kc w' (hE.below hb) hR hD hl (hK.below hb) hkn hIH
end Go.Proofs.YtlakomilichhnaaGreatDoor
namespace Go.Proofs.YtlakomilichhnaaGreatDoor
open Go.RowKit
set_option maxRecDepth 100000
namespace Sr
open Rc hiding bys
open Qr
theorem knowF_nil : knowF [] = fun _ => none := by
 funext kl
 unfold knowF
 rw [if_neg]
 rintro ⟨r, hr, _⟩
 cases hr
theorem knowF_step (l : List Rd) (x : Rd) : Vm.upd (knowF l) (.int .i64 x.id) (.bool true) = knowF (l ++ [x]) := by
 funext kl
 unfold Vm.upd knowF
 by_cases h : kl = .int .i64 x.id
 ·rw [if_pos h, if_pos ⟨x, List.mem_append_right _ List.mem_cons_self, h⟩]
 ·rw [if_neg h]
  by_cases h2 : ∃ r ∈ l, kl = .int .i64 r.id
  ·obtain ⟨r, hr, e⟩ := h2
   rw [if_pos ⟨r, hr, e⟩, if_pos ⟨r, List.mem_append_left _ hr, e⟩]
  ·rw [if_neg h2, if_neg]
   rintro ⟨r, hr, e⟩
   rcases List.mem_append.1 hr with hr | hr
   ·exact h2 ⟨r, hr, e⟩
   ·rw [List.mem_singleton] at hr
    rw [hr] at e
    exact h e
theorem made_at {w w' : World} {X : Nat} (h : w.alloc (.map #[] 0) = w') (hX : w.heap.size = X) : Vm.Map 3 w' X 0 (fun _ => none) := by
 rw [← h, ← hX]
 exact Vm.Map.made 3 w
theorem grown_set (w : World) (p : Addr) (v : Value) : w.grownBy (w.setCell p v) (some p.block) :=
 ⟨rfl, rfl, rfl, by simp [World.setCell], fun k _ hk => Below.heap_setCell _ _ _ _ (fun e => hk (by rw [e]))⟩
theorem cell_grown {w w' : World} {row : Option Nat} {b o : Nat} {v : Value} (hg : w.grownBy w' row) (hne : some b ≠ row) (hc : w.cell? ⟨b, o, none⟩ = some v) : w'.cell? ⟨b, o, none⟩ = some v :=
 (World.cell?_of_block (hg.block b (Rc.cell_lt hc) hne)).trans hc
end Sr
set_option maxHeartbeats 3200000 in
theorem search_Eval_c (T : List Ix.PT) (xa : Option Addr) (xc : Nat) (l : List Rc.Rd) (la : Option Addr) (lc B : Nat) (q : Qr.Qy) (cs : List Value) (w : World) (px : Ix.PsA w xa xc T) (hX : Sr.Gx T) (rl : Rc.RdA w la lc l) (hR : ∀ r ∈ l, Sr.Rg r) (hD : Ix.Dist l) (hl : l.length ≤ 1000000) (hq : Qr.QC B w q cs) (hrq : Sr.Rq q) (hz : Qr.Wz 1000000 q) :
  Calls Tryz.prog 15 #[.agg #[.slice xa T.length xc], .slice la l.length lc, .agg cs.toArray] w fun e w' => ∃ v, e = .returned v ∧ Ix.OwnI w' w.heap.size v (Sr.evalQ (T.map (·.1)) l q) ∧ Below w.heap.size w w' := by
 have hml : maxLen = 9223372036854775807 := rfl
 have hmm := @run_makeMap Tryz.prog
 have hmf : ∀ (fn : Fn) (first cap : Array Value) (w : World), (Instr.makeFunc fn first cap).run Tryz.prog w = .ok (.func fn first cap) w := fun _ _ _ _ => rfl
 obtain ⟨sa, sc, ka, kc, rfl, _, _, _⟩ := hq.kids
 obtain ⟨V, hV⟩ : ∃ V, ((((w.alloc (.cells #[.slice xa T.length xc] 24)).alloc (.cells #[.int .i64 q.op, .int .i64 q.fld, .slice sa q.ws.length sc, .int .i64 q.a, .int .i64 q.b, .slice ka q.ks.length kc] 29)).alloc (.map #[] 0)).alloc (.cells #[.slice xa T.length xc, .slice la l.length lc, .map (some (w.heap.size + 2)), .map none] 65)).alloc (.map #[] 0) = V := ⟨_, rfl⟩
 have hBV : Below w.heap.size w V := by rw [← hV]; exact ((((Tx.newb _ _).alloc (by simp) _).alloc (by simp; omega) _).alloc (by simp; omega) _).alloc (by simp; omega) _
 have hVs : V.heap.size = w.heap.size + 5 := by rw [← hV]; simp
 have hM0 : Vm.Map 3 V (w.heap.size + 4) 0 (fun _ => none) := Sr.made_at hV (by simp)
 have hI0 : Vm.Map 3 V (w.heap.size + 2) 0 (fun _ => none) := by
  have h := Sr.made_at (w := (w.alloc (.cells #[.slice xa T.length xc] 24)).alloc (.cells #[.int .i64 q.op, .int .i64 q.fld, .slice sa q.ws.length sc, .int .i64 q.a, .int .i64 q.b, .slice ka q.ks.length kc] 29)) rfl (X := w.heap.size + 2) (by simp)
  rw [← hV]
  exact h.below ((Tx.newb _ _).alloc (by simp) _)
 have KP : Hid (V.heap[w.heap.size + 3]? = some (.cells #[.slice xa T.length xc, .slice la l.length lc, .map (some (w.heap.size + 2)), .map none] 65 (0, 0))) := Lib.hid (by
  rw [← hV]
  have h := heap_alloc_new (((w.alloc (.cells #[.slice xa T.length xc] 24)).alloc (.cells #[.int .i64 q.op, .int .i64 q.fld, .slice sa q.ws.length sc, .int .i64 q.a, .int .i64 q.b, .slice ka q.ks.length kc] 29)).alloc (.map #[] 0)) (.cells #[.slice xa T.length xc, .slice la l.length lc, .map (some (w.heap.size + 2)), .map none] 65)
  rw [show (((w.alloc (.cells #[.slice xa T.length xc] 24)).alloc (.cells #[.int .i64 q.op, .int .i64 q.fld, .slice sa q.ws.length sc, .int .i64 q.a, .int .i64 q.b, .slice ka q.ks.length kc] 29)).alloc (.map #[] 0)).heap.size = w.heap.size + 3 by simp] at h
  exact ((Tx.newb _ _).block _ (by simp)).trans h)
 have d0 : V.cell? ⟨w.heap.size + 1, 0, none⟩ = some (.int .i64 q.op) := by rw [← hV]; exact cell_later (((Tx.newb _ _).alloc (by simp) _).alloc (by simp) _) (by simp)
 have d1 : V.cell? ⟨w.heap.size + 1, 1, none⟩ = some (.int .i64 q.fld) := by rw [← hV]; exact cell_later (((Tx.newb _ _).alloc (by simp) _).alloc (by simp) _) (by simp)
 have d2 : V.cell? ⟨w.heap.size + 1, 2, none⟩ = some (.slice sa q.ws.length sc) := by rw [← hV]; exact cell_later (((Tx.newb _ _).alloc (by simp) _).alloc (by simp) _) (by simp)
 have d3 : V.cell? ⟨w.heap.size + 1, 3, none⟩ = some (.int .i64 q.a) := by rw [← hV]; exact cell_later (((Tx.newb _ _).alloc (by simp) _).alloc (by simp) _) (by simp)
 have d4 : V.cell? ⟨w.heap.size + 1, 4, none⟩ = some (.int .i64 q.b) := by rw [← hV]; exact cell_later (((Tx.newb _ _).alloc (by simp) _).alloc (by simp) _) (by simp)
 have d5 : V.cell? ⟨w.heap.size + 1, 5, none⟩ = some (.slice ka q.ks.length kc) := by rw [← hV]; exact cell_later (((Tx.newb _ _).alloc (by simp) _).alloc (by simp) _) (by simp)
 have b0 : V.cell? ⟨w.heap.size, 0, none⟩ = some (.slice xa T.length xc) := by rw [← hV]; exact cell_later ((((Tx.newb _ _).alloc (by simp) _).alloc (by simp) _).alloc (by simp) _) (by simp)
 have HPL : Hid (w.heap.size + 3 < V.heap.size) := Lib.hid (by omega)
 have HPX := Lib.hid px
 have HRL := Lib.hid rl
 have HQ := Lib.hid hq
 have HI0 := Lib.hid hI0
 have HRG := Lib.hid hR
 have HBV := Lib.hid hBV
 have hcap := rl.cap
 have hmax := rl.max
 have HEV := Lib.hid (fun nI => sr_eval_c (w.heap.size + 3) (w.heap.size + 2) (w.heap.size + 4) nI T xa xc l la lc B hX hR hD hl q hrq hz)
 clear px hX rl hR hD hq hrq hz hI0
 go_enter Tryz.func15, Tryz.ntmps15
 go_wp2_with (first
  | (refine Vm.ins_step hM6 (by decide) Ix.nkey (Sr.in64_key (x := 7) (by unfold Sr.In64; omega)) trivial rfl _ _ _ rfl Tryz.underlying63 rfl rfl rfl ?_; intro w7 hM7 hg7; have hgA := ((((((hg1.trans hg2).trans hg3).trans hg4).trans hg5).trans hg6).trans hg7); have K7 := Tx.blk ((hgA.block (w.heap.size + 3) HPL.out (by intro h9; injection h9 with h9; omega)).trans KP.out); obtain ⟨k7c, k7f, k7l⟩ := K7; have HGA := Lib.hid hgA)
  | (refine Vm.ins_step hM5 (by decide) Ix.nkey (Sr.in64_key (x := 6) (by unfold Sr.In64; omega)) trivial rfl _ _ _ rfl Tryz.underlying63 rfl rfl rfl ?_; intro w6 hM6 hg6)
  | (refine Vm.ins_step hM4 (by decide) Ix.nkey (Sr.in64_key (x := 5) (by unfold Sr.In64; omega)) trivial rfl _ _ _ rfl Tryz.underlying63 rfl rfl rfl ?_; intro w5 hM5 hg5)
  | (refine Vm.ins_step hM3 (by decide) Ix.nkey (Sr.in64_key (x := 4) (by unfold Sr.In64; omega)) trivial rfl _ _ _ rfl Tryz.underlying63 rfl rfl rfl ?_; intro w4 hM4 hg4)
  | (refine Vm.ins_step hM2 (by decide) Ix.nkey (Sr.in64_key (x := 3) (by unfold Sr.In64; omega)) trivial rfl _ _ _ rfl Tryz.underlying63 rfl rfl rfl ?_; intro w3 hM3 hg3)
  | (refine Vm.ins_step hM1 (by decide) Ix.nkey (Sr.in64_key (x := 2) (by unfold Sr.In64; omega)) trivial rfl _ _ _ rfl Tryz.underlying63 rfl rfl rfl ?_; intro w2 hM2 hg2)
  | (refine Vm.ins_step hM0 (by decide) Ix.nkey (Sr.in64_key (x := 1) (by unfold Sr.In64; omega)) trivial rfl _ _ _ rfl Tryz.underlying63 rfl rfl rfl ?_; intro w1 hM1 hg1))
 obtain ⟨V9, hV9⟩ : ∃ V9, (w7.setCell ⟨w.heap.size + 3, 3, none⟩ (.map (some (w.heap.size + 4)))) = V9 := ⟨_, rfl⟩
 have hA7 : V.heap.size ≤ w7.heap.size := HGA.out.size
 have hVN : w.heap.size + 5 ≤ w7.heap.size := by omega
 have hs9 : V9.heap.size = w7.heap.size := by rw [← hV9]; simp [World.setCell]
 have h7 : Below w.heap.size w w7 := HBV.out.grown HGA.out HBV.out.size (fun j hj => by injection hj with hj; omega)
 have h9 : Below w.heap.size w V9 := by rw [← hV9]; exact h7.setCell (show w.heap.size ≤ w.heap.size + 3 by omega) _
 have hg9 : w7.grownBy V9 (some (w.heap.size + 3)) := by rw [← hV9]; exact Sr.grown_set w7 _ _
 have r0 : V9.cell? ⟨w.heap.size + 3, 0, none⟩ = some (.slice xa T.length xc) := by rw [← hV9]; exact (World.cell?_setCell_other w7 _ _ _ (by intro h; injection h with _ h; omega)).trans (k7c 0)
 have r1 : V9.cell? ⟨w.heap.size + 3, 1, none⟩ = some (.slice la l.length lc) := by rw [← hV9]; exact (World.cell?_setCell_other w7 _ _ _ (by intro h; injection h with _ h; omega)).trans (k7c 1)
 have r2 : V9.cell? ⟨w.heap.size + 3, 2, none⟩ = some (.map (some (w.heap.size + 2))) := by rw [← hV9]; exact (World.cell?_setCell_other w7 _ _ _ (by intro h; injection h with _ h; omega)).trans (k7c 2)
 have r3 : V9.cell? ⟨w.heap.size + 3, 3, none⟩ = some (.map (some (w.heap.size + 4))) := by rw [← hV9]; exact World.cell?_setCell_same w7 _ _ (k7c 3)
 have hI9 : Vm.Map 3 V9 (w.heap.size + 2) 0 (fun _ => none) := (HI0.out.kept HGA.out (by intro h; injection h with h; omega)).kept hg9 (by intro h; injection h with h; omega)
 have hF9 : Vm.Map 3 V9 (w.heap.size + 4) 7 (Sr.findF (w.heap.size + 3)) := (show Vm.Map 3 w7 (w.heap.size + 4) 7 (Sr.findF (w.heap.size + 3)) from hM7).kept hg9 (by intro h; injection h with h; omega)
 have hgV : V.grownBy w7 (some (w.heap.size + 4)) := HGA.out
 have e0 := Sr.cell_grown hg9 (by intro h; injection h with h; omega) (Sr.cell_grown hgV (by intro h; injection h with h; omega) d0)
 have e1 := Sr.cell_grown hg9 (by intro h; injection h with h; omega) (Sr.cell_grown hgV (by intro h; injection h with h; omega) d1)
 have e2 := Sr.cell_grown hg9 (by intro h; injection h with h; omega) (Sr.cell_grown hgV (by intro h; injection h with h; omega) d2)
 have e3 := Sr.cell_grown hg9 (by intro h; injection h with h; omega) (Sr.cell_grown hgV (by intro h; injection h with h; omega) d3)
 have e4 := Sr.cell_grown hg9 (by intro h; injection h with h; omega) (Sr.cell_grown hgV (by intro h; injection h with h; omega) d4)
 have e5 := Sr.cell_grown hg9 (by intro h; injection h with h; omega) (Sr.cell_grown hgV (by intro h; injection h with h; omega) d5)
 have HI9 := Lib.hid hI9
 have HF9 := Lib.hid hF9
 have H9 := Lib.hid h9
 clear hI9 hF9 hgV hg9 h7 h9 k7c k7f k7l hM1 hM2 hM3 hM4 hM5 hM6 hM7 hM0 hg1 hg2 hg3 hg4 hg5 hg6 hg7 d0 d1 d2 d3 d4 d5 hV b0 hBV
 go_loopw [9, 36] (fun _ i wr => ∃ (k n : Nat), k ≤ l.length ∧ n ≤ k ∧ i = .int .i64 k ∧ Hid (Vm.Map 3 wr (w.heap.size + 2) n (Sr.knowF (l.take k))) ∧ Hid (V9.grownBy wr (some (w.heap.size + 2)))) (fun _ i _ => l.length - (intOf i).toNat)
 case atStart => exact ⟨0, 0, Nat.zero_le _, Nat.le_refl _, rfl, Lib.hid (by rw [List.take_zero, Sr.knowF_nil, hV9]; exact HI9.out), Lib.hid (by rw [hV9]; exact ⟨rfl, rfl, rfl, Nat.le_refl _, fun _ _ _ => rfl⟩)⟩
 case round =>
  obtain ⟨k, n, hk, hnk, rfl, hmi, hgr⟩ := hrel
  have hrs := hgr.out.size
  have hbr : Below w.heap.size w wr := H9.out.grown hgr.out H9.out.size (fun j hj => by injection hj with hj; omega)
  have z0 := Sr.cell_grown hgr.out (by intro h; injection h with h; omega) r0
  have z1 := Sr.cell_grown hgr.out (by intro h; injection h with h; omega) r1
  have z2 := Sr.cell_grown hgr.out (by intro h; injection h with h; omega) r2
  have z3 := Sr.cell_grown hgr.out (by intro h; injection h with h; omega) r3
  by_cases hlt : k < l.length
  ·obtain ⟨x, hx⟩ : ∃ x, l[k]? = some x := ⟨_, List.getElem?_eq_getElem hlt⟩
   obtain ⟨b, o, fa, fc, rfl, hbl, x0, x1, x2, x3, x4, hfx⟩ := (HRL.out.below hbr).get hx
   have htk : l.take (k + 1) = l.take k ++ [x] := by rw [List.take_add_one, hx]; rfl
   have hst := Sr.knowF_step (l.take k) x
   rw [← htk] at hst
   have hid := (HRG.out x (List.mem_of_getElem? hx)).ids
   have hkx := Sr.in64_key (x := x.id) (by unfold Sr.In64; omega)
   obtain ⟨U, hU⟩ : ∃ U, wr.alloc (.cells #[.int .i64 x.id, .int .i64 x.ver, .int .i64 x.kind, .string x.lang, .slice fa x.fields.length fc] 51) = U := ⟨_, rfl⟩
   have hbU : Below wr.heap.size wr U := by rw [← hU]; exact Tx.newb _ _
   have y0 : U.cell? ⟨wr.heap.size, 0, none⟩ = some (.int .i64 x.id) := by rw [← hU]; simp
   have u2 := cell_later hbU z2
   have HMU := Lib.hid (hmi.out.below hbU)
   have HGU : Hid (V9.grownBy U (some (w.heap.size + 2))) := Lib.hid (hgr.out.trans (Sr.grown_below hbU _))
   have HST := Lib.hid hst
   have HKX := Lib.hid hkx
   clear htk hst hkx hx hfx hmi hgr
   go_wp2
   go_still_tail 6, (by kernel_rfl)
   have hbq : Below U.heap.size U U.drew := (Below.refl _ _).drew
   change wpList _ _ _ _ _ U.drew
   generalize U.drew = U6 at hbq ⊢
   go_wp2_with (at_mapUpdate; go_must (refine Vm.put_step (HMU.out.below hbq) (by omega) Ix.nkey HKX.out trivial rfl _ _ _ rfl Tryz.underlying62 rfl rfl rfl ?_); intro w3 hM3 hg3)
   go_roundw
   case rel => exact ⟨k + 1, n + 1, hlt, by omega, by go_num, Lib.hid (by rw [← HST.out]; exact hM3), Lib.hid ((HGU.out.trans (Sr.grown_below hbq _)).trans hg3)⟩
   case measure => simp [intOf]; omega
  ·obtain rfl : k = l.length := by omega
   have hmi2 := hmi.out
   rw [List.take_length] at hmi2
   have hev : Sr.Ev wr (w.heap.size + 3) (w.heap.size + 2) (w.heap.size + 4) n T xa xc l la lc := ⟨z0, z1, z2, z3, HPX.out.below hbr, HRL.out.below hbr, hmi2, HF9.out.kept hgr.out (by intro h; injection h with h; omega)⟩
   have EC := HEV.out n _ wr (HQ.out.later hbr) hev
   have t0 := Sr.cell_grown hgr.out (by intro h; injection h with h; omega) e0
   have t1 := Sr.cell_grown hgr.out (by intro h; injection h with h; omega) e1
   have t2 := Sr.cell_grown hgr.out (by intro h; injection h with h; omega) e2
   have t3 := Sr.cell_grown hgr.out (by intro h; injection h with h; omega) e3
   have t4 := Sr.cell_grown hgr.out (by intro h; injection h with h; omega) e4
   have t5 := Sr.cell_grown hgr.out (by intro h; injection h with h; omega) e5
   have HEC := Lib.hid EC
   clear EC hev hmi2 hmi hgr
   go_wp2_with (go_at_call 37; ((with_reducible refine HEC.out.mono ?_); rintro e w1 ⟨v1, rfl, ho1, hb1⟩))
   go_ret
   exact ⟨_, rfl, Sr.ownI_le ho1 (by omega), Tx.step hbr hb1⟩
end Go.Proofs.YtlakomilichhnaaGreatDoor
