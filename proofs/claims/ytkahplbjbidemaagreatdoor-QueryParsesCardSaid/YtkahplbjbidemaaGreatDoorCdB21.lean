/- Layer 21: what the rows' lists give; a search that came in, opened. -/
import Derived.Test.YtkahplbjbidemaaGreatDoorQyA
import Derived.Test.YtkahplbjbidemaaGreatDoorTxD
import Derived.Test.YtkahplbjbidemaaGreatDoorCards
import Derived.Test.YtkahplbjbidemaaGreatDoorTie
import Derived.ProofKit
import Derived.OpenShut
import Derived.ShutString
import Derived.Lay
import Derived.PinnedBridge
import Derived.Lib.LaidU8T
import Derived.Deep.DeepWitnessRowRef
import Derived.Deep.Fields
import Derived.ChangeArms
namespace Go.Proofs.YtkahplbjbidemaaGreatDoor
open Go.ChangeShapes Go.WideShapes Go.ChangeAt Go.RowKit Go.Deep
set_option maxRecDepth 100000

section
variable {H : Type} {enc : TypeId × Value → H} {P : Program}
theorem mapM_same {α β : Type} {g h : α → Option β} : ∀ (l : List α), (∀ a ∈ l, g a = h a) → l.mapM g = l.mapM h
  | [], _ => rfl
  | a :: l, e => by
    rw [List.mapM_cons, List.mapM_cons, e a (by simp), mapM_same l (fun b hb => e b (List.mem_cons_of_mem _ hb))]
/-- A type of numbers, bools, strings and structs of such: its reading does not look at the world. -/
def flatT (P : Program) : Nat → TypeId → Bool
  | 0, _ => false
  | n + 1, t => match P.underlying t with
    | some .bool => true
    | some (.int _) => true
    | some .string => true
    | some (.struct fs) => fs.toList.all fun f => flatT P n f.type
    | _ => false
theorem trod_flat (w w' : World) (b b' : Nat) (sp sp' : Nat → Bool) (hd hd' : Bool) : ∀ (m : Nat) (t : TypeId), flatT P m t = true → ∀ (fuel : Nat) (cs : List Value), DataW.trod enc P w b sp hd fuel t cs = DataW.trod enc P w' b' sp' hd' fuel t cs
  | 0, t, h => by simp [flatT] at h
  | m + 1, t, h => by
    intro fuel cs
    cases fuel with
    | zero => rfl
    | succ fuel =>
      unfold flatT at h
      split at h
      · rename_i hu
        unfold DataW.trod
        rw [hu]
        rcases cs with _ | ⟨v, _ | ⟨u, cs⟩⟩
        · rfl
        · cases v <;> rfl
        · cases v <;> rfl
      · rename_i hu
        unfold DataW.trod
        rw [hu]
        rcases cs with _ | ⟨v, _ | ⟨u, cs⟩⟩
        · rfl
        · cases v <;> rfl
        · cases v <;> rfl
      · rename_i hu
        unfold DataW.trod
        rw [hu]
        rcases cs with _ | ⟨v, _ | ⟨u, cs⟩⟩
        · rfl
        · cases v <;> rfl
        · cases v <;> rfl
      · rename_i fs hu
        unfold DataW.trod
        rw [hu]
        simp only
        rw [mapM_same _ (fun f hf => trod_flat w w' b b' sp sp' hd hd' m f.type (List.all_eq_true.1 h f hf) fuel _)]
      · cases h
theorem Trod_flat {w : World} (w' : World) {b : Nat} (b' : Nat) {sp : Nat → Bool} (sp' : Nat → Bool) {hd : Bool} (hd' : Bool) (m : Nat) {t : TypeId} (hm : flatT P m t = true) {v : Value} {d : DataW H} {p : List MemPlace} (h : DataW.Trod enc P w b sp hd t v d p) : DataW.Trod enc P w' b' sp' hd' t v d p := by
  obtain ⟨fuel, hf⟩ := h
  exact ⟨fuel, by rw [trod_flat w' w b' b sp' sp hd' hd m t hm]; exact hf⟩

/-- The row's last step, where of the world behind it is known that all that was there is as it was. -/
theorem post_of_below {f : Func} {s : ChangeSpec} {apart fresh handsOn again : Bool} {W W' : World} {args : Array Value} {v : Value} {ds gs : List (DataW H)} {before pa pv : List MemPlace}
    (hW : DataW.Whole enc P f.params.toList s.vars apart W args.toList ds gs before)
    (hres : ∀ (b : Nat) (sp : Nat → Bool) (hd : Bool), DataW.TrodAll enc P W' b sp hd f.resultTypes.toList (v.resultList f.resultTypes.size) (s.fn H (ds ++ gs)).results [])
    (hargs : ∀ sp : Nat → Bool, (∀ p ∈ before, sp p.block = true) → DataW.TrodAll enc P W' 0 sp true f.params.toList args.toList (s.fn H (ds ++ gs)).args pa)
    (hvars : ∀ sp : Nat → Bool, (∀ p ∈ before, sp p.block = true) → DataW.TrodVars enc P W' sp s.vars (s.fn H (ds ++ gs)).vars pv)
    (hps : before = pa ++ pv) (hb : Below W.heap.size W W')
    (hok : ∀ (j : Nat) (t : TypeId) (r : Value), f.resultTypes[j]? = some t → (v.resultList f.resultTypes.size)[j]? = some r → Value.okWide P W' .any 0 t r) :
    s.post enc P f apart fresh handsOn again W args v W' := by
  have hlt : ∀ p ∈ before, p.block < W.heap.size := fun p hp => hW.lt p hp
  have hold : ∀ p ∈ before, (fun b => decide (b < W.heap.size)) p.block = true := fun p hp => by simpa using hlt p hp
  refine ⟨ds, gs, before, [], pa, pv, hW, hres _ _ _, hargs _ hold, hvars _ hold, World.keptBut_mono (fun p hp => ⟨hp, ?_⟩) (hb.frame (· ∈ before)), fun _ => ?_⟩
  · rw [hps, List.mem_append] at hp
    exact Or.inr hp
  · obtain ⟨_, _, _, _, _, hz, hn⟩ := hW
    refine ⟨hok, _, _, ([] ++ pa) ++ pv, ⟨[] ++ pa, pv, trodAll_append (hargs _ (fun _ _ => rfl)) (hres _ _ _), hvars _ (fun _ _ => rfl), rfl, ?_, ?_⟩, ?_⟩
    · intro b off hp
      have hin : MemPlace.cell b off ∈ before := by rw [hps]; simpa using hp
      rw [hb.frozen (hlt _ hin)]
      exact hz b off hin
    · intro ha
      have := hn ha
      rw [hps] at this
      simpa using this
    · intro p hp _
      rw [hps]
      simpa using hp

/-- A variable of one cell whose type is an integer's holds some integer. -/
theorem int_of_shape {w : World} {g : Nat} {t : TypeId} {k : IntKind} {zero : Array Value} (h : w.ShapedOpen P) (hg : g < P.globals.size)
    (h0 : ((begin P (fun _ _ => 0) default).world.heap[g]?).bind Obj.row? = some (zero, t)) (hz : zero.size = 1)
    (hb : P.buildable t = true) (hc : P.cellTypes P.depth t = some [t]) (hu : P.underlying t = some (.int k)) : ∃ m, w.cell? ⟨g, 0, none⟩ = some (.int k m) := by
  obtain ⟨cs, hh, hs, hr⟩ := h.1 g zero t hg h0
  obtain ⟨ts, hts, _, hall⟩ := hr hb
  rw [hc] at hts
  cases hts
  have h1 : 0 < cs.size := by omega
  obtain ⟨u, hu', hok⟩ := hall 0 cs[0] (by simp [h1])
  have : u = t := by simpa using hu'.symm
  subst this
  have hcell : w.cell? ⟨g, 0, none⟩ = some cs[0] := by simp [World.cell?, hh, h1]
  rw [hcell]
  unfold Cell.ok at hok
  rw [hu] at hok
  cases hv : cs[0] <;> rw [hv] at hok <;> first | (simp at hok; done) | skip
  obtain ⟨e, _⟩ : _ ∧ _ := hok
  subst e
  exact ⟨_, rfl⟩

/-- A listed interface value stands in the variable's cell. -/
theorem iface_of_reads {w : World} {nm u : String} {y : DataW Unit} {g : Nat} {t : TypeId} {ms : Array (String × TypeId)} (h : Lib.VarReads P w nm (.iface u y)) (hg : P.globalNamed nm = some g) (hty : (P.globals[g]?).map (·.type) = some t) (hu : P.underlying t = some (.interface ms)) :
    ∃ te pe, w.cell? ⟨g, 0, none⟩ = some (.iface te pe) := by
  obtain ⟨g', t', cs, fuel, p, h1, h2, h3, h4⟩ := h
  obtain rfl := Option.some.inj (hg.symm.trans h1)
  obtain rfl := Option.some.inj (hty.symm.trans h2)
  rw [World.var?_cell hg h3 0]
  cases fuel with
  | zero => simp [DataW.trod] at h4
  | succ fuel =>
    unfold DataW.trod at h4
    rw [hu] at h4
    split at h4 <;> first | (exfalso; simp at h4; done) | skip
    all_goals (rename_i h5 h6; first | (exfalso; cases h5; done) | exact ⟨_, _, by rw [← Array.getElem?_toList, h6]; rfl⟩)
end

/-- The numbers of the types and variables that Go's tables lie in. -/
theorem u8x : U8Extra Tryz.prog Tryz.lays196_ren := ⟨by kernel_rfl, by kernel_rfl, by kernel_rfl, by kernel_rfl, by kernel_rfl, by kernel_rfl, by kernel_rfl⟩
theorem acc_eq : Lib.acceptData = Rows.laid_unicode_utf8_acceptRanges := by kernel_rfl
theorem pow_eq : Lib.tabData .u64 Lib.pow10Tab = (Rows.laid_internal_strconv_uint64pow10 : DataW Unit) := by kernel_rfl

/-- WHAT THE ROW's LIST GIVES, AND THE WORLD's SHAPE. -/
theorem G_of {W : World} (h0 : laidMetH Tryz.prog Rows.queryRightsRow.laid W) (hsh : W.ShapedOpen Tryz.prog) : G W := by
  have h : laidMet Tryz.prog Rows.queryRightsRow.laid W := h0
  have hp : Lib.VarReads Tryz.prog W "internal/strconv.uint64pow10" (Lib.tabData .u64 Lib.pow10Tab) := by rw [pow_eq]; exact Lib.laidMet.reads h (.tail _ (.tail _ (.head _)))
  have ha : Lib.VarReads Tryz.prog W "unicode/utf8.acceptRanges" Lib.acceptData := by rw [acc_eq]; exact Lib.laidMet.reads h (.tail _ (.tail _ (.tail _ (.head _))))
  have hr : Lib.VarReads Tryz.prog W "strconv.ErrRange" Rows.laid_strconv_ErrRange := Lib.laidMet.reads h (.tail _ (.tail _ (.tail _ (.tail _ (.head _)))))
  have hs : Lib.VarReads Tryz.prog W "strconv.ErrSyntax" Rows.laid_strconv_ErrSyntax := Lib.laidMet.reads h (.tail _ (.tail _ (.tail _ (.tail _ (.tail _ (.head _))))))
  have hf : Lib.VarReads Tryz.prog W "unicode/utf8.first" Lib.firstData := by rw [← Pinned.utf8First_eq]; exact Lib.laidMet.reads h (.tail _ (.tail _ (.tail _ (.tail _ (.tail _ (.tail _ (.head _)))))))
  have hp10 : Lib.TabIs Tryz.prog W "internal/strconv.uint64pow10" .u64 Lib.pow10Tab := by
    obtain ⟨g, t, cs, fuel, p, hg, hty, hvar, hd⟩ := hp
    obtain rfl := Option.some.inj ((show Tryz.prog.globalNamed "internal/strconv.uint64pow10" = some 3 by kernel_rfl).symm.trans hg)
    obtain rfl := Option.some.inj ((show (Tryz.prog.globals[3]?).map (·.type) = some 129 by kernel_rfl).symm.trans hty)
    unfold Lib.TabIs
    rw [hvar, ← Lib.cells_of_tab (show Tryz.prog.underlying 129 = some (.array 20 89) by kernel_rfl) (show Tryz.prog.underlying 89 = some (.int .u64) by kernel_rfl) (by kernel_rfl) (by kernel_rfl) hd]
  have hpc := hp10.cell (show Tryz.prog.globalNamed "internal/strconv.uint64pow10" = some 3 by kernel_rfl) 0 (by decide)
  have hlo : 3 < W.heap.size := by
    rcases Nat.lt_or_ge 3 W.heap.size with h1 | h1
    · exact h1
    · exfalso
      have h2 : W.heap[3]? = none := Array.getElem?_eq_none h1
      simp [World.cell?, h2] at hpc
  exact ⟨utf8Tabs_of_readsT (U8Types.of196 Tryz.lays196) u8x hf ha, hp10,
    int_of_shape hsh (g := 2) (t := 3) (zero := #[.int .i64 0]) (of_decide_eq_true (by kernel_rfl)) (by kernel_rfl) rfl (by kernel_rfl) (by kernel_rfl) Tryz.underlying3,
    iface_of_reads hs (g := 6) (t := 71) (by kernel_rfl) (by kernel_rfl) Tryz.underlying71,
    iface_of_reads hr (g := 7) (t := 71) (by kernel_rfl) (by kernel_rfl) Tryz.underlying71, hlo⟩

section
variable {H : Type} {enc : TypeId × Value → H} {P : Program} {W : World} {base : Nat} {sp : Nat → Bool} {hd : Bool}
theorem wf_i64 {n : Int} (h : (Lit.int .i64 n).wf = true) : -9223372036854775808 ≤ n ∧ n ≤ 9223372036854775807 := by
  unfold Lit.wf at h
  rw [Bool.and_eq_true, decide_eq_true_iff, decide_eq_true_iff] at h
  exact h
theorem one_i64 {fuel : Nat} {t : TypeId} {cs : List Value} {x : DataW H × List MemPlace} (hu : P.underlying t = some (.int .i64)) (h : DataW.trod enc P W base sp hd fuel t cs = some x) : ∃ n : Int, cs = [.int .i64 n] ∧ -9223372036854775808 ≤ n ∧ n ≤ 9223372036854775807 := by
  obtain ⟨n, e, _, hw⟩ := DataW.trod_int hu h
  exact ⟨n, e, wf_i64 hw⟩
/-- A slice whose elements are opened by R; the elements are read with less fuel. -/
theorem open_listF {α : Type} [Inhabited α] {t e : TypeId} {k : Nat} (ht : P.underlying t = some (.slice e)) (hk : P.cellsOf e = k) (h0 : 0 < k) (R : α → List Value → Prop) {fuel : Nat}
    (hR : ∀ n, n < fuel → ∀ cs (x : DataW H × List MemPlace), DataW.trod enc P W base sp hd n e cs = some x → ∃ it, R it cs) {v : Value} {x : DataW H × List MemPlace} (h : DataW.trod enc P W base sp hd fuel t [v] = some x) :
    ∃ (xs : List α) (a : Option Addr) (c : Nat), v = .slice a xs.length c ∧ xs.length ≤ c ∧ c ≤ maxLen ∧ ∃ b o, (xs ≠ [] → a = some ⟨b, o, none⟩ ∧ b < W.heap.size) ∧ ∀ (j : Nat) x, xs[j]? = some x → ∃ cs, R x cs ∧ ∀ i, i < k → W.cell? ⟨b, o + j * k + i, none⟩ = cs[i]? := by
  rcases DataW.trod_slice ht h with ⟨e, _⟩ | ⟨a', len, cap, elems, rest, n, hfu, e, _, hb, hl, hm, hlen, hel0, _, _⟩
  · simp at e
    subst e
    exact ⟨[], none, 0, rfl, Nat.le_refl _, by unfold maxLen; omega, 0, 0, fun h => absurd rfl h, fun j x hx => by simp at hx⟩
  · simp at e
    subst e
    have hel : ∀ i, i < len → ∃ cs' y, W.cells? base (a'.add (i * P.cellsOf e)) (P.cellsOf e) = some cs' ∧ DataW.trod enc P W base sp hd n _ cs' = some y := fun i hi => by
      have h1 := hel0 i hi
      rw [List.getElem?_eq_getElem (by omega)] at h1
      obtain ⟨cs', h2, h3⟩ := Option.bind_eq_some_iff.1 h1
      exact ⟨cs', _, h2, h3⟩
    have hit : ∀ i, i < len → ∃ it : α, (a'.block < W.heap.size ∧ ∃ cs, R it cs ∧ ∀ j, j < k → W.cell? ((a'.add (i * k)).add j) = cs[j]?) := fun i hi => by
      obtain ⟨cs', y, hc, ht⟩ := hel i hi
      obtain ⟨it, hr⟩ := hR n (by omega) _ _ ht
      rw [hk] at hc
      have hlt := World.cells?_block hc h0
      have hblk : (a'.add (i * k)).block = a'.block := by unfold Addr.add; split <;> rfl
      rw [hblk] at hlt
      exact ⟨it, hlt, cs', hr, (World.cells?_some hc).2.2⟩
    have hat : ∀ i, i < len → ∃ (it : α) (u : Value), W.cell? ((a'.add (i * k)).add 0) = some u := fun i hi => by
      obtain ⟨cs', y, hc, ht⟩ := hel i hi
      rw [hk] at hc
      obtain ⟨_, hcl, hat⟩ := World.cells?_some hc
      have h1 : 0 < cs'.length := by omega
      exact ⟨default, cs'[0]'h1, by rw [hat 0 h0]; exact List.getElem?_eq_getElem h1⟩
    obtain ⟨f, hf2⟩ := choose_lt hit
    have hget : ∀ (j : Nat) x, ((List.range len).map f)[j]? = some x → j < len ∧ x = f j := fun j x hx => by
      rw [List.getElem?_map] at hx
      obtain ⟨y, hy, rfl⟩ := Option.map_eq_some_iff.1 hx
      have h1 : j < len := by have := (List.getElem?_eq_some_iff.1 hy).1; simpa using this
      rw [List.getElem?_range h1] at hy
      injection hy with hy
      exact ⟨h1, by rw [hy]⟩
    obtain ⟨b, o, spot⟩ := a'
    have hspot : 0 < len → spot = none := fun h9 => by
      obtain ⟨_, u, hu⟩ := hat 0 h9
      simpa [Addr.add] using World.cell?_spot hu
    refine ⟨(List.range len).map f, some ⟨b, o, spot⟩, cap, by simp, by simpa using hl, hm, b, o, fun hne => ?_, fun j x hx => ?_⟩
    · have h9 : 0 < len := by
        rcases Nat.eq_zero_or_pos len with h | h
        · subst h; simp at hne
        · exact h
      exact ⟨by rw [hspot h9], (hf2 0 h9).1⟩
    · obtain ⟨hj, rfl⟩ := hget j x hx
      obtain ⟨cs, hr, g⟩ := (hf2 j hj).2
      obtain rfl := hspot (by omega)
      simp only [add_plain] at g
      exact ⟨cs, hr, g⟩
end

section
variable {H : Type} {enc : TypeId × Value → H} {W : World} {base : Nat} {sp : Nat → Bool} {hd : Bool}
theorem open_strs {fuel : Nat} {v : Value} {x : DataW H × List MemPlace} (h : DataW.trod enc Tryz.prog W base sp hd fuel 22 [v] = some x) : ∃ (xs : List ByteArray) (a : Option Addr) (c : Nat), v = .slice a xs.length c ∧ SL W v xs := by
  obtain ⟨xs, a, c, e, h1, h2, b, o, h3, h4⟩ := open_listF Tryz.underlying22 (show Tryz.prog.cellsOf 9 = 1 by kernel_rfl) (by omega) (fun (s : ByteArray) cs => cs = [.string s]) (fun n _ cs x hx => by
    obtain ⟨s, e, _⟩ := DataW.trod_string Tryz.underlying9 hx
    exact ⟨s, e⟩) h
  refine ⟨xs, a, c, e, ?_⟩
  by_cases hne : xs = []
  · subst hne
    exact .inl ⟨rfl, a, c, e⟩
  · obtain ⟨rfl, hb⟩ := h3 hne
    refine .inr ⟨b, o, c, e, h1, h2, hb, fun j y hy => ?_⟩
    obtain ⟨cs, rfl, g⟩ := h4 j y hy
    have := g 0 (by omega)
    simpa using this
instance : Inhabited Qr.Qy := ⟨.mk 0 0 [] 0 0 []⟩
/-- A search's cells. -/
theorem open_qy : ∀ (fuel : Nat) (cs : List Value) (x : DataW H × List MemPlace), DataW.trod enc Tryz.prog W base sp hd fuel 25 cs = some x → ∃ q : Qr.Qy, Qr.QC 0 W q cs := by
  intro fuel
  induction fuel using Nat.strongRecOn with
  | ind fuel ih =>
    intro cs x h
    obtain ⟨xs, n, hfu, _, hl, hxl, hg⟩ := DataW.trod_struct Tryz.underlying25 h
    have hl6 : cs.length = 6 := hl.trans (by kernel_rfl)
    match cs, hl6 with
    | [c0, c1, c2, c3, c4, c5], _ =>
      match xs, hxl with
      | [x0, x1, x2, x3, x4, x5], _ =>
        have k3 : Tryz.prog.cellsOf 3 = 1 := by kernel_rfl
        have ks : Tryz.prog.cellsOf 22 = 1 := by kernel_rfl
        have kq : Tryz.prog.cellsOf 23 = 1 := by kernel_rfl
        obtain ⟨n0, e0, _, _⟩ := one_i64 Tryz.underlying3 (show DataW.trod enc Tryz.prog W base sp hd n 3 [c0] = some x0 from by simpa [k3] using hg 0 _ rfl)
        obtain ⟨n1, e1, _, _⟩ := one_i64 Tryz.underlying3 (show DataW.trod enc Tryz.prog W base sp hd n 3 [c1] = some x1 from by simpa [k3] using hg 1 _ rfl)
        obtain ⟨ws, sa, sc, e2, hs⟩ := open_strs (show DataW.trod enc Tryz.prog W base sp hd n 22 [c2] = some x2 from by simpa [ks] using hg 2 _ rfl)
        obtain ⟨n3, e3, _, _⟩ := one_i64 Tryz.underlying3 (show DataW.trod enc Tryz.prog W base sp hd n 3 [c3] = some x3 from by simpa [k3] using hg 3 _ rfl)
        obtain ⟨n4, e4, _, _⟩ := one_i64 Tryz.underlying3 (show DataW.trod enc Tryz.prog W base sp hd n 3 [c4] = some x4 from by simpa [k3] using hg 4 _ rfl)
        obtain ⟨kl, ka, kc, e5, h1, h2, b, o, h3, h4⟩ := open_listF Tryz.underlying23 (show Tryz.prog.cellsOf 25 = 6 by kernel_rfl) (by omega) (fun (q : Qr.Qy) cs => Qr.QC 0 W q cs) (fun m hm cs x hx => ih m (by omega) cs x hx) (show DataW.trod enc Tryz.prog W base sp hd n 23 [c5] = some x5 from by simpa [kq] using hg 5 _ rfl)
        injection e0 with e0
        injection e1 with e1
        injection e3 with e3
        injection e4 with e4
        rw [e2] at hs
        subst e0 e1 e2 e3 e4 e5
        have hcs : ∀ j, j < kl.length → ∃ cs : List Value, (∃ q, kl[j]? = some q ∧ Qr.QC 0 W q cs) ∧ ∀ i, i < 6 → W.cell? ⟨b, o + j * 6 + i, none⟩ = cs[i]? := fun j hj => by
          obtain ⟨cs, hq, g⟩ := h4 j _ (List.getElem?_eq_getElem hj)
          exact ⟨cs, ⟨_, List.getElem?_eq_getElem hj, hq⟩, g⟩
        obtain ⟨f, hf⟩ := choose_lt hcs
        have hgetf : ∀ (j : Nat) cs, ((List.range kl.length).map f)[j]? = some cs → j < kl.length ∧ cs = f j := fun j cs hx => by
          rw [List.getElem?_map] at hx
          obtain ⟨y, hy, rfl⟩ := Option.map_eq_some_iff.1 hx
          have h1 : j < kl.length := by have := (List.getElem?_eq_some_iff.1 hy).1; simpa using this
          rw [List.getElem?_range h1] at hy
          injection hy with hy
          exact ⟨h1, by rw [hy]⟩
        refine ⟨.mk n0 n1 ws n3 n4 kl, .mk (css := (List.range kl.length).map f) hs (fun _ ad l c _ => Nat.zero_le _) (by simp) (fun j k cs hk hc => ?_) ?_ (fun _ ad _ => Nat.zero_le _)⟩
        · obtain ⟨hj, rfl⟩ := hgetf j cs hc
          obtain ⟨⟨q, hq1, hq2⟩, _⟩ := hf j hj
          rw [hk] at hq1
          injection hq1 with hq1
          rw [hq1]
          exact hq2
        · refine ⟨by simpa using h1, h2, b, o, fun hne => h3 (fun h0 => hne (by rw [h0]; rfl)), fun j i cs u hc hu => ?_⟩
          obtain ⟨hj, rfl⟩ := hgetf j cs hc
          obtain ⟨⟨q, hq1, hq2⟩, g⟩ := hf j hj
          have hu' : (f j)[i]? = some u := hu
          have hi : i < 6 := by rw [← hq2.len]; exact (List.getElem?_eq_some_iff.1 hu').1
          rw [g i hi]
          exact hu'
/-- A search by value, opened. -/
theorem open_query {r : Reach} {b0 : Nat} {v : Value} {d : DataW H} {ps : List MemPlace} (hv : Value.okWide Tryz.prog W r b0 25 v) (h : DataW.Trod enc Tryz.prog W base sp hd 25 v d ps) :
    ∃ (q : Qr.Qy) (cs : List Value), v = .agg cs.toArray ∧ Qr.QC 0 W q cs := by
  obtain ⟨fuel, hf⟩ := h
  obtain ⟨cs, rfl, _⟩ := okWide_struct Tryz.underlying25 hv
  obtain ⟨q, hq⟩ := open_qy _ _ _ hf
  refine ⟨q, cs.toList, by simp, ?_⟩
  simpa [Value.cells] using hq
end
end Go.Proofs.YtkahplbjbidemaaGreatDoor
