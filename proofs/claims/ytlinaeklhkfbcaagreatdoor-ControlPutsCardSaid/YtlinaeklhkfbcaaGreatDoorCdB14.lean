/- Layer 14: what the rows' lists give. -/
import Derived.Test.YtlinaeklhkfbcaaGreatDoorTxD
import Derived.Test.YtlinaeklhkfbcaaGreatDoorKnA
import Derived.Test.YtlinaeklhkfbcaaGreatDoorCards
import Derived.Test.YtlinaeklhkfbcaaGreatDoorTie
import Derived.ProofKit
import Derived.OpenShut
import Derived.ShutString
import Derived.Lay
import Derived.PinnedBridge
import Derived.Lib.LaidU8T
import Derived.Deep.DeepWitnessRowRef
import Derived.Deep.Fields
import Derived.ChangeArms
namespace Go.Proofs.YtlinaeklhkfbcaaGreatDoor
open Go.ChangeShapes Go.WideShapes Go.ChangeAt Go.RowKit Go.Deep
set_option maxRecDepth 100000

section
variable {H : Type} {enc : TypeId × Value → H} {P : Program}
theorem mapM_same {α β : Type} {g h : α → Option β} : ∀ (l : List α), (∀ a ∈ l, g a = h a) → l.mapM g = l.mapM h
  | [], _ => rfl
  | a :: l, e => by
    rw [List.mapM_cons, List.mapM_cons, e a (by simp), mapM_same l (fun b hb => e b (List.mem_cons_of_mem _ hb))]
/-- A type of numbers, bools, strings and structs of such: its reading does not look at the world. -/
def flatT (P : Program) : Nat → TypeId → Bool
  | 0, _ => false
  | n + 1, t => match P.underlying t with
    | some .bool => true
    | some (.int _) => true
    | some .string => true
    | some (.struct fs) => fs.toList.all fun f => flatT P n f.type
    | _ => false
theorem trod_flat (w w' : World) (b b' : Nat) (sp sp' : Nat → Bool) (hd hd' : Bool) : ∀ (m : Nat) (t : TypeId), flatT P m t = true → ∀ (fuel : Nat) (cs : List Value), DataW.trod enc P w b sp hd fuel t cs = DataW.trod enc P w' b' sp' hd' fuel t cs
  | 0, t, h => by simp [flatT] at h
  | m + 1, t, h => by
    intro fuel cs
    cases fuel with
    | zero => rfl
    | succ fuel =>
      unfold flatT at h
      split at h
      · rename_i hu
        unfold DataW.trod
        rw [hu]
        rcases cs with _ | ⟨v, _ | ⟨u, cs⟩⟩
        · rfl
        · cases v <;> rfl
        · cases v <;> rfl
      · rename_i hu
        unfold DataW.trod
        rw [hu]
        rcases cs with _ | ⟨v, _ | ⟨u, cs⟩⟩
        · rfl
        · cases v <;> rfl
        · cases v <;> rfl
      · rename_i hu
        unfold DataW.trod
        rw [hu]
        rcases cs with _ | ⟨v, _ | ⟨u, cs⟩⟩
        · rfl
        · cases v <;> rfl
        · cases v <;> rfl
      · rename_i fs hu
        unfold DataW.trod
        rw [hu]
        simp only
        rw [mapM_same _ (fun f hf => trod_flat w w' b b' sp sp' hd hd' m f.type (List.all_eq_true.1 h f hf) fuel _)]
      · cases h
theorem Trod_flat {w : World} (w' : World) {b : Nat} (b' : Nat) {sp : Nat → Bool} (sp' : Nat → Bool) {hd : Bool} (hd' : Bool) (m : Nat) {t : TypeId} (hm : flatT P m t = true) {v : Value} {d : DataW H} {p : List MemPlace} (h : DataW.Trod enc P w b sp hd t v d p) : DataW.Trod enc P w' b' sp' hd' t v d p := by
  obtain ⟨fuel, hf⟩ := h
  exact ⟨fuel, by rw [trod_flat w' w b' b sp' sp hd' hd m t hm]; exact hf⟩

/-- The row's last step, where of the world behind it is known that all that was there is as it was. -/
theorem post_of_below {f : Func} {s : ChangeSpec} {apart fresh handsOn again : Bool} {W W' : World} {args : Array Value} {v : Value} {ds gs : List (DataW H)} {before pa pv : List MemPlace}
    (hW : DataW.Whole enc P f.params.toList s.vars apart W args.toList ds gs before)
    (hres : ∀ (b : Nat) (sp : Nat → Bool) (hd : Bool), DataW.TrodAll enc P W' b sp hd f.resultTypes.toList (v.resultList f.resultTypes.size) (s.fn H (ds ++ gs)).results [])
    (hargs : ∀ sp : Nat → Bool, (∀ p ∈ before, sp p.block = true) → DataW.TrodAll enc P W' 0 sp true f.params.toList args.toList (s.fn H (ds ++ gs)).args pa)
    (hvars : ∀ sp : Nat → Bool, (∀ p ∈ before, sp p.block = true) → DataW.TrodVars enc P W' sp s.vars (s.fn H (ds ++ gs)).vars pv)
    (hps : before = pa ++ pv) (hb : Below W.heap.size W W')
    (hok : ∀ (j : Nat) (t : TypeId) (r : Value), f.resultTypes[j]? = some t → (v.resultList f.resultTypes.size)[j]? = some r → Value.okWide P W' .any 0 t r) :
    s.post enc P f apart fresh handsOn again W args v W' := by
  have hlt : ∀ p ∈ before, p.block < W.heap.size := fun p hp => hW.lt p hp
  have hold : ∀ p ∈ before, (fun b => decide (b < W.heap.size)) p.block = true := fun p hp => by simpa using hlt p hp
  refine ⟨ds, gs, before, [], pa, pv, hW, hres _ _ _, hargs _ hold, hvars _ hold, World.keptBut_mono (fun p hp => ⟨hp, ?_⟩) (hb.frame (· ∈ before)), fun _ => ?_⟩
  · rw [hps, List.mem_append] at hp
    exact Or.inr hp
  · obtain ⟨_, _, _, _, _, hz, hn⟩ := hW
    refine ⟨hok, _, _, ([] ++ pa) ++ pv, ⟨[] ++ pa, pv, trodAll_append (hargs _ (fun _ _ => rfl)) (hres _ _ _), hvars _ (fun _ _ => rfl), rfl, ?_, ?_⟩, ?_⟩
    · intro b off hp
      have hin : MemPlace.cell b off ∈ before := by rw [hps]; simpa using hp
      rw [hb.frozen (hlt _ hin)]
      exact hz b off hin
    · intro ha
      have := hn ha
      rw [hps] at this
      simpa using this
    · intro p hp _
      rw [hps]
      simpa using hp

/-- A variable of one cell whose type is an integer's holds some integer. -/
theorem int_of_shape {w : World} {g : Nat} {t : TypeId} {k : IntKind} {zero : Array Value} (h : w.ShapedOpen P) (hg : g < P.globals.size)
    (h0 : ((begin P (fun _ _ => 0) default).world.heap[g]?).bind Obj.row? = some (zero, t)) (hz : zero.size = 1)
    (hb : P.buildable t = true) (hc : P.cellTypes P.depth t = some [t]) (hu : P.underlying t = some (.int k)) : ∃ m, w.cell? ⟨g, 0, none⟩ = some (.int k m) := by
  obtain ⟨cs, hh, hs, hr⟩ := h.1 g zero t hg h0
  obtain ⟨ts, hts, _, hall⟩ := hr hb
  rw [hc] at hts
  cases hts
  have h1 : 0 < cs.size := by omega
  obtain ⟨u, hu', hok⟩ := hall 0 cs[0] (by simp [h1])
  have : u = t := by simpa using hu'.symm
  subst this
  have hcell : w.cell? ⟨g, 0, none⟩ = some cs[0] := by simp [World.cell?, hh, h1]
  rw [hcell]
  unfold Cell.ok at hok
  rw [hu] at hok
  cases hv : cs[0] <;> rw [hv] at hok <;> first | (simp at hok; done) | skip
  obtain ⟨e, _⟩ : _ ∧ _ := hok
  subst e
  exact ⟨_, rfl⟩

end

/-- The numbers of the types and variables that Go's tables lie in. -/
def u8ren : Go.Shelf.Ren := ⟨fun x => x, fun x => if x = 5 then 5 else if x = 119 then 161 else if x = 138 then 163 else 164, fun x => if x = 3 then 1 else 2⟩
theorem u8t : U8Types Tryz.prog u8ren := ⟨by kernel_rfl, by kernel_rfl, by kernel_rfl, by kernel_rfl⟩
theorem u8x : U8Extra Tryz.prog u8ren := ⟨by kernel_rfl, by kernel_rfl, by kernel_rfl, by kernel_rfl, by kernel_rfl, by kernel_rfl, by kernel_rfl⟩
theorem acc_eq : Lib.acceptData = Rows.laid_unicode_utf8_acceptRanges := by kernel_rfl
theorem pow_eq : Lib.tabData .u64 Lib.pow10Tab = (Rows.laid_internal_strconv_uint64pow10 : DataW Unit) := by kernel_rfl

/-- WHAT THE ROW's LIST GIVES, AND THE WORLD's SHAPE. -/
theorem G_of {W : World} (h0 : laidMetH Tryz.prog Rows.controlPutsRow.laid W) (hsh : W.ShapedOpen Tryz.prog) : G W := by
  have h : laidMet Tryz.prog Rows.controlPutsRow.laid W := h0
  have hp : Lib.VarReads Tryz.prog W "internal/strconv.uint64pow10" (Lib.tabData .u64 Lib.pow10Tab) := by rw [pow_eq]; exact Lib.laidMet.reads h (.tail _ (.tail _ (.head _)))
  have ha : Lib.VarReads Tryz.prog W "unicode/utf8.acceptRanges" Lib.acceptData := by rw [acc_eq]; exact Lib.laidMet.reads h (.tail _ (.tail _ (.tail _ (.head _))))
  have hf : Lib.VarReads Tryz.prog W "unicode/utf8.first" Lib.firstData := by rw [← Pinned.utf8First_eq]; exact Lib.laidMet.reads h (.tail _ (.tail _ (.tail _ (.tail _ (.tail _ (.head _))))))
  have hp10 : Lib.TabIs Tryz.prog W "internal/strconv.uint64pow10" .u64 Lib.pow10Tab := by
    obtain ⟨g, t, cs, fuel, p, hg, hty, hvar, hd⟩ := hp
    obtain rfl := Option.some.inj ((show Tryz.prog.globalNamed "internal/strconv.uint64pow10" = some 4 by kernel_rfl).symm.trans hg)
    obtain rfl := Option.some.inj ((show (Tryz.prog.globals[4]?).map (·.type) = some 193 by kernel_rfl).symm.trans hty)
    unfold Lib.TabIs
    rw [hvar, ← Lib.cells_of_tab (show Tryz.prog.underlying 193 = some (.array 20 148) by kernel_rfl) (show Tryz.prog.underlying 148 = some (.int .u64) by kernel_rfl) (by kernel_rfl) (by kernel_rfl) hd]
  have hpc := hp10.cell (show Tryz.prog.globalNamed "internal/strconv.uint64pow10" = some 4 by kernel_rfl) 0 (by decide)
  have hlo : 4 < W.heap.size := by
    rcases Nat.lt_or_ge 4 W.heap.size with h1 | h1
    · exact h1
    · exfalso
      have h2 : W.heap[4]? = none := Array.getElem?_eq_none h1
      simp [World.cell?, h2] at hpc
  exact ⟨utf8Tabs_of_readsT u8t u8x hf ha, hp10,
    int_of_shape hsh (g := 3) (t := 3) (zero := #[.int .i64 0]) (of_decide_eq_true (by kernel_rfl)) (by kernel_rfl) rfl (by kernel_rfl) (by kernel_rfl) Tryz.underlying3, hlo⟩

section
open Go.ChangeShapes
variable {H : Type} {enc : TypeId × Value → H} {P : Program}
/-- A machine integer is no greater than Go's greatest. -/
theorem wf_i64 {n : Int} (h : (Lit.int .i64 n).wf = true) : -9223372036854775808 ≤ n ∧ n ≤ 9223372036854775807 := by
  unfold Lit.wf at h
  rw [Bool.and_eq_true, decide_eq_true_iff, decide_eq_true_iff] at h
  exact h
end
/-- A rule's datum. -/
def dT (r : Ct.TR) : DataW Unit := .agg [.lit (.string r.tag), .lit (.bool r.rep), .lit (.bool r.must), .lit (.string r.codes), .lit (.string r.once), .lit (.string r.needs), .lit (.int .i64 r.auth)]
theorem one_str {H : Type} {enc : TypeId × Value → H} {P : Program} {w : World} {b : Nat} {sp : Nat → Bool} {hd : Bool} {fuel : Nat} {t : TypeId} {cs : List Value} {x : DataW H × List MemPlace} {l : List UInt8} (hu : P.underlying t = some .string) (h : DataW.trod enc P w b sp hd fuel t cs = some x) (e : x.1 = .lit (.string l)) : cs = [.string ⟨l.toArray⟩] := by
  obtain ⟨s, e1, e2, _⟩ := DataW.trod_string hu h
  subst e2
  injection e with e
  injection e with e
  subst e
  simp [e1]
theorem one_bool {H : Type} {enc : TypeId × Value → H} {P : Program} {w : World} {b : Nat} {sp : Nat → Bool} {hd : Bool} {fuel : Nat} {t : TypeId} {cs : List Value} {x : DataW H × List MemPlace} {l : Bool} (hu : P.underlying t = some .bool) (h : DataW.trod enc P w b sp hd fuel t cs = some x) (e : x.1 = .lit (.bool l)) : cs = [.bool l] := by
  obtain ⟨s, e1, e2⟩ := DataW.trod_bool hu h
  subst e2
  injection e with e
  injection e with e
  subst e
  exact e1
theorem one_int {H : Type} {enc : TypeId × Value → H} {P : Program} {w : World} {b : Nat} {sp : Nat → Bool} {hd : Bool} {fuel : Nat} {t : TypeId} {cs : List Value} {x : DataW H × List MemPlace} {l : Int} {k : IntKind} (hu : P.underlying t = some (.int k)) (h : DataW.trod enc P w b sp hd fuel t cs = some x) (e : x.1 = .lit (.int k l)) : cs = [.int k l] := by
  obtain ⟨s, e1, e2, _⟩ := DataW.trod_int hu h
  subst e2
  injection e with e
  injection e with _ e
  subst e
  exact e1
theorem cells_rule {w : World} {b : Nat} {sp : Nat → Bool} {hd : Bool} {fuel : Nat} {cs : List Value} {x : DataW Unit × List MemPlace} {r : Ct.TR} (h : DataW.trod (fun _ => ()) Tryz.prog w b sp hd fuel 79 cs = some x) (e : x.1 = dT r) : cs = Ct.encT r := by
  obtain ⟨xs, n, _, rfl, hl, hxl, hg⟩ := DataW.trod_struct Tryz.underlying79 h
  have hl7 : cs.length = 7 := hl.trans (by kernel_rfl)
  match cs, hl7 with
  | [c0, c1, c2, c3, c4, c5, c6], _ =>
    match xs, hxl with
    | [x0, x1, x2, x3, x4, x5, x6], _ =>
      have k3 : Tryz.prog.cellsOf 3 = 1 := by kernel_rfl
      have k9 : Tryz.prog.cellsOf 9 = 1 := by kernel_rfl
      have kb : Tryz.prog.cellsOf 4 = 1 := by kernel_rfl
      simp only [dT, List.map_cons, List.map_nil, DataW.agg.injEq, List.cons.injEq, and_true] at e
      obtain ⟨f0, f1, f2, f3, f4, f5, f6⟩ := e
      have g0 := one_str Tryz.underlying9 (show DataW.trod (fun _ => ()) Tryz.prog w b sp hd n 9 [c0] = some x0 from by simpa [k9] using hg 0 _ rfl) f0
      have g1 := one_bool Tryz.underlying4 (show DataW.trod (fun _ => ()) Tryz.prog w b sp hd n 4 [c1] = some x1 from by simpa [kb] using hg 1 _ rfl) f1
      have g2 := one_bool Tryz.underlying4 (show DataW.trod (fun _ => ()) Tryz.prog w b sp hd n 4 [c2] = some x2 from by simpa [kb] using hg 2 _ rfl) f2
      have g3 := one_str Tryz.underlying9 (show DataW.trod (fun _ => ()) Tryz.prog w b sp hd n 9 [c3] = some x3 from by simpa [k9] using hg 3 _ rfl) f3
      have g4 := one_str Tryz.underlying9 (show DataW.trod (fun _ => ()) Tryz.prog w b sp hd n 9 [c4] = some x4 from by simpa [k9] using hg 4 _ rfl) f4
      have g5 := one_str Tryz.underlying9 (show DataW.trod (fun _ => ()) Tryz.prog w b sp hd n 9 [c5] = some x5 from by simpa [k9] using hg 5 _ rfl) f5
      have g6 := one_int Tryz.underlying3 (show DataW.trod (fun _ => ()) Tryz.prog w b sp hd n 3 [c6] = some x6 from by simpa [k3] using hg 6 _ rfl) f6
      simp only [List.cons.injEq, and_true] at g0 g1 g2 g3 g4 g5 g6
      simp [Ct.encT, g0, g1, g2, g3, g4, g5, g6]
theorem std_eq : (.agg (Ct.std.map dT) : DataW Unit) = Rows.laid_library_rules_standard := by kernel_rfl
theorem StdW_of {W : World} (h0 : laidMetH Tryz.prog Rows.controlPutsRow.laid W) : Ct.StdW W := by
  have h : laidMet Tryz.prog Rows.controlPutsRow.laid W := h0
  have hp : Lib.VarReads Tryz.prog W "library/rules.standard" (.agg (Ct.std.map dT)) := by rw [std_eq]; exact Lib.laidMet.reads h (.tail _ (.tail _ (.tail _ (.tail _ (.head _)))))
  obtain ⟨g, t, cs, fuel, p, hg, hty, hvar, hd⟩ := hp
  have hgn : Tryz.prog.globalNamed "library/rules.standard" = some 0 := by kernel_rfl
  obtain rfl := Option.some.inj (hgn.symm.trans hg)
  obtain rfl := Option.some.inj ((show (Tryz.prog.globals[0]?).map (·.type) = some 116 by kernel_rfl).symm.trans hty)
  obtain ⟨xs, m, _, hx, hl, hxl, hat⟩ := DataW.trod_array (show Tryz.prog.underlying 116 = some (.array 25 79) by kernel_rfl) hd
  have k7 : Tryz.prog.cellsOf 79 = 7 := by kernel_rfl
  have hxs : xs.map (·.1) = Ct.std.map dT := by
    have := congrArg Prod.fst hx
    simp only [DataW.agg.injEq] at this
    exact this.symm
  have hcell : ∀ j, W.cell? ⟨0, j, none⟩ = cs.toList[j]? := fun j => by
    have := World.var?_cell hgn hvar j
    simpa using this
  have key : ∀ (j i : Nat) (r : Ct.TR) (u : Value), Ct.std[j]? = some r → (Ct.encT r)[i]? = some u → W.cell? ⟨0, 0 + j * 7 + i, none⟩ = some u := fun j i r u hj hu => by
    have hj25 : j < 25 := by have := (List.getElem?_eq_some_iff.1 hj).1; exact this
    have hi : i < 7 := by have := (List.getElem?_eq_some_iff.1 hu).1; exact this
    obtain ⟨x, hxj⟩ : ∃ x, xs[j]? = some x := ⟨_, List.getElem?_eq_getElem (by omega)⟩
    have h1 := hat j hj25
    rw [hxj, k7] at h1
    have h2 : x.1 = dT r := by
      have : (xs.map (·.1))[j]? = (Ct.std.map dT)[j]? := by rw [hxs]
      rw [List.getElem?_map, List.getElem?_map, hxj, hj] at this
      simpa using this
    have h3 := cells_rule h1 h2
    rw [hcell, Nat.zero_add]
    rw [← h3, List.getElem?_take, if_pos hi, List.getElem?_drop] at hu
    exact hu
  refine ⟨Nat.le_refl _, by unfold maxLen; omega, 0, 0, fun _ => ⟨rfl, ?_⟩, key⟩
  have h5 := key 0 0 _ _ (show Ct.std[0]? = some ⟨[48, 50, 48], true, false, [97, 122], [], [], 0⟩ from rfl) rfl
  rcases Nat.lt_or_ge 0 W.heap.size with h1 | h1
  · exact h1
  · exfalso
    have h2 : W.heap[0]? = none := Array.getElem?_eq_none h1
    simp [World.cell?, h2] at h5
end Go.Proofs.YtlinaeklhkfbcaaGreatDoor
