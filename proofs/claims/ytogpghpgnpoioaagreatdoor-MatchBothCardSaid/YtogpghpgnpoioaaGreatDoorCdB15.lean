/- Layer 15: what the rows' lists give. -/
import Derived.Test.YtogpghpgnpoioaaGreatDoorKb
import Derived.Test.YtogpghpgnpoioaaGreatDoorCards
import Derived.Test.YtogpghpgnpoioaaGreatDoorTie
import Derived.ProofKit
import Derived.OpenShut
import Derived.ShutString
import Derived.Lay
import Derived.PinnedBridge
import Derived.Lib.LaidU8T
import Derived.Deep.DeepWitnessRowRef
import Derived.Deep.Fields
import Derived.ChangeArms
namespace Go.Proofs.YtogpghpgnpoioaaGreatDoor
open Go.ChangeShapes Go.WideShapes Go.ChangeAt Go.RowKit Go.Deep
set_option maxRecDepth 100000

section
variable {H : Type} {enc : TypeId × Value → H} {P : Program}
theorem mapM_same {α β : Type} {g h : α → Option β} : ∀ (l : List α), (∀ a ∈ l, g a = h a) → l.mapM g = l.mapM h
  | [], _ => rfl
  | a :: l, e => by
    rw [List.mapM_cons, List.mapM_cons, e a (by simp), mapM_same l (fun b hb => e b (List.mem_cons_of_mem _ hb))]
/-- A type of numbers, bools, strings and structs of such: its reading does not look at the world. -/
def flatT (P : Program) : Nat → TypeId → Bool
  | 0, _ => false
  | n + 1, t => match P.underlying t with
    | some .bool => true
    | some (.int _) => true
    | some .string => true
    | some (.struct fs) => fs.toList.all fun f => flatT P n f.type
    | _ => false
theorem trod_flat (w w' : World) (b b' : Nat) (sp sp' : Nat → Bool) (hd hd' : Bool) : ∀ (m : Nat) (t : TypeId), flatT P m t = true → ∀ (fuel : Nat) (cs : List Value), DataW.trod enc P w b sp hd fuel t cs = DataW.trod enc P w' b' sp' hd' fuel t cs
  | 0, t, h => by simp [flatT] at h
  | m + 1, t, h => by
    intro fuel cs
    cases fuel with
    | zero => rfl
    | succ fuel =>
      unfold flatT at h
      split at h
      · rename_i hu
        unfold DataW.trod
        rw [hu]
        rcases cs with _ | ⟨v, _ | ⟨u, cs⟩⟩
        · rfl
        · cases v <;> rfl
        · cases v <;> rfl
      · rename_i hu
        unfold DataW.trod
        rw [hu]
        rcases cs with _ | ⟨v, _ | ⟨u, cs⟩⟩
        · rfl
        · cases v <;> rfl
        · cases v <;> rfl
      · rename_i hu
        unfold DataW.trod
        rw [hu]
        rcases cs with _ | ⟨v, _ | ⟨u, cs⟩⟩
        · rfl
        · cases v <;> rfl
        · cases v <;> rfl
      · rename_i fs hu
        unfold DataW.trod
        rw [hu]
        simp only
        rw [mapM_same _ (fun f hf => trod_flat w w' b b' sp sp' hd hd' m f.type (List.all_eq_true.1 h f hf) fuel _)]
      · cases h
theorem Trod_flat {w : World} (w' : World) {b : Nat} (b' : Nat) {sp : Nat → Bool} (sp' : Nat → Bool) {hd : Bool} (hd' : Bool) (m : Nat) {t : TypeId} (hm : flatT P m t = true) {v : Value} {d : DataW H} {p : List MemPlace} (h : DataW.Trod enc P w b sp hd t v d p) : DataW.Trod enc P w' b' sp' hd' t v d p := by
  obtain ⟨fuel, hf⟩ := h
  exact ⟨fuel, by rw [trod_flat w' w b' b sp' sp hd' hd m t hm]; exact hf⟩

/-- The row's last step, where of the world behind it is known that all that was there is as it was. -/
theorem post_of_below {f : Func} {s : ChangeSpec} {apart fresh handsOn again : Bool} {W W' : World} {args : Array Value} {v : Value} {ds gs : List (DataW H)} {before pa pv : List MemPlace}
    (hW : DataW.Whole enc P f.params.toList s.vars apart W args.toList ds gs before)
    (hres : ∀ (b : Nat) (sp : Nat → Bool) (hd : Bool), DataW.TrodAll enc P W' b sp hd f.resultTypes.toList (v.resultList f.resultTypes.size) (s.fn H (ds ++ gs)).results [])
    (hargs : ∀ sp : Nat → Bool, (∀ p ∈ before, sp p.block = true) → DataW.TrodAll enc P W' 0 sp true f.params.toList args.toList (s.fn H (ds ++ gs)).args pa)
    (hvars : ∀ sp : Nat → Bool, (∀ p ∈ before, sp p.block = true) → DataW.TrodVars enc P W' sp s.vars (s.fn H (ds ++ gs)).vars pv)
    (hps : before = pa ++ pv) (hb : Below W.heap.size W W')
    (hok : ∀ (j : Nat) (t : TypeId) (r : Value), f.resultTypes[j]? = some t → (v.resultList f.resultTypes.size)[j]? = some r → Value.okWide P W' .any 0 t r) :
    s.post enc P f apart fresh handsOn again W args v W' := by
  have hlt : ∀ p ∈ before, p.block < W.heap.size := fun p hp => hW.lt p hp
  have hold : ∀ p ∈ before, (fun b => decide (b < W.heap.size)) p.block = true := fun p hp => by simpa using hlt p hp
  refine ⟨ds, gs, before, [], pa, pv, hW, hres _ _ _, hargs _ hold, hvars _ hold, World.keptBut_mono (fun p hp => ⟨hp, ?_⟩) (hb.frame (· ∈ before)), fun _ => ?_⟩
  · rw [hps, List.mem_append] at hp
    exact Or.inr hp
  · obtain ⟨_, _, _, _, _, hz, hn⟩ := hW
    refine ⟨hok, _, _, ([] ++ pa) ++ pv, ⟨[] ++ pa, pv, trodAll_append (hargs _ (fun _ _ => rfl)) (hres _ _ _), hvars _ (fun _ _ => rfl), rfl, ?_, ?_⟩, ?_⟩
    · intro b off hp
      have hin : MemPlace.cell b off ∈ before := by rw [hps]; simpa using hp
      rw [hb.frozen (hlt _ hin)]
      exact hz b off hin
    · intro ha
      have := hn ha
      rw [hps] at this
      simpa using this
    · intro p hp _
      rw [hps]
      simpa using hp

/-- A variable of one cell whose type is an integer's holds some integer. -/
theorem int_of_shape {w : World} {g : Nat} {t : TypeId} {k : IntKind} {zero : Array Value} (h : w.ShapedOpen P) (hg : g < P.globals.size)
    (h0 : ((begin P (fun _ _ => 0) default).world.heap[g]?).bind Obj.row? = some (zero, t)) (hz : zero.size = 1)
    (hb : P.buildable t = true) (hc : P.cellTypes P.depth t = some [t]) (hu : P.underlying t = some (.int k)) : ∃ m, w.cell? ⟨g, 0, none⟩ = some (.int k m) := by
  obtain ⟨cs, hh, hs, hr⟩ := h.1 g zero t hg h0
  obtain ⟨ts, hts, _, hall⟩ := hr hb
  rw [hc] at hts
  cases hts
  have h1 : 0 < cs.size := by omega
  obtain ⟨u, hu', hok⟩ := hall 0 cs[0] (by simp [h1])
  have : u = t := by simpa using hu'.symm
  subst this
  have hcell : w.cell? ⟨g, 0, none⟩ = some cs[0] := by simp [World.cell?, hh, h1]
  rw [hcell]
  unfold Cell.ok at hok
  rw [hu] at hok
  cases hv : cs[0] <;> rw [hv] at hok <;> first | (simp at hok; done) | skip
  obtain ⟨e, _⟩ : _ ∧ _ := hok
  subst e
  exact ⟨_, rfl⟩

end

/-- The numbers of the types and variables that Go's tables lie in. -/
def u8ren : Go.Shelf.Ren := ⟨fun x => x, fun x => if x = 5 then 5 else if x = 119 then 206 else if x = 138 then 219 else 220, fun x => if x = 3 then 1 else 2⟩
theorem u8t : U8Types Tryz.prog u8ren := ⟨by kernel_rfl, by kernel_rfl, by kernel_rfl, by kernel_rfl⟩
theorem u8x : U8Extra Tryz.prog u8ren := ⟨by kernel_rfl, by kernel_rfl, by kernel_rfl, by kernel_rfl, by kernel_rfl, by kernel_rfl, by kernel_rfl⟩
theorem acc_eq : Lib.acceptData = Rows.laid_unicode_utf8_acceptRanges := by kernel_rfl
theorem pow_eq : Lib.tabData .u64 Lib.pow10Tab = (Rows.laid_internal_strconv_uint64pow10 : DataW Unit) := by kernel_rfl

/-- WHAT THE ROW's LIST GIVES, AND THE WORLD's SHAPE. -/
theorem G_of {W : World} (h0 : laidMetH Tryz.prog Rows.matchRightRow.laid W) (hsh : W.ShapedOpen Tryz.prog) : G W := by
  have h : laidMet Tryz.prog Rows.matchRightRow.laid W := h0
  have hp : Lib.VarReads Tryz.prog W "internal/strconv.uint64pow10" (Lib.tabData .u64 Lib.pow10Tab) := by rw [pow_eq]; exact Lib.laidMet.reads h (.tail _ (.tail _ (.head _)))
  have ha : Lib.VarReads Tryz.prog W "unicode/utf8.acceptRanges" Lib.acceptData := by rw [acc_eq]; exact Lib.laidMet.reads h (.tail _ (.tail _ (.tail _ (.head _))))
  have hf : Lib.VarReads Tryz.prog W "unicode/utf8.first" Lib.firstData := by rw [← Pinned.utf8First_eq]; exact Lib.laidMet.reads h (.tail _ (.tail _ (.tail _ (.tail _ (.head _)))))
  have hp10 : Lib.TabIs Tryz.prog W "internal/strconv.uint64pow10" .u64 Lib.pow10Tab := by
    obtain ⟨g, t, cs, fuel, p, hg, hty, hvar, hd⟩ := hp
    obtain rfl := Option.some.inj ((show Tryz.prog.globalNamed "internal/strconv.uint64pow10" = some 3 by kernel_rfl).symm.trans hg)
    obtain rfl := Option.some.inj ((show (Tryz.prog.globals[3]?).map (·.type) = some 238 by kernel_rfl).symm.trans hty)
    unfold Lib.TabIs
    rw [hvar, ← Lib.cells_of_tab (show Tryz.prog.underlying 238 = some (.array 20 131) by kernel_rfl) (show Tryz.prog.underlying 131 = some (.int .u64) by kernel_rfl) (by kernel_rfl) (by kernel_rfl) hd]
  have hpc := hp10.cell (show Tryz.prog.globalNamed "internal/strconv.uint64pow10" = some 3 by kernel_rfl) 0 (by decide)
  have hlo : 3 < W.heap.size := by
    rcases Nat.lt_or_ge 3 W.heap.size with h1 | h1
    · exact h1
    · exfalso
      have h2 : W.heap[3]? = none := Array.getElem?_eq_none h1
      simp [World.cell?, h2] at hpc
  exact ⟨utf8Tabs_of_readsT u8t u8x hf ha, hp10,
    int_of_shape hsh (g := 0) (t := 3) (zero := #[.int .i64 0]) (of_decide_eq_true (by kernel_rfl)) (by kernel_rfl) rfl (by kernel_rfl) (by kernel_rfl) Tryz.underlying3, hlo⟩

section
open Go.ChangeShapes
variable {H : Type} {enc : TypeId × Value → H} {P : Program}
/-- A machine integer is no greater than Go's greatest. -/
theorem wf_i64 {n : Int} (h : (Lit.int .i64 n).wf = true) : -9223372036854775808 ≤ n ∧ n ≤ 9223372036854775807 := by
  unfold Lit.wf at h
  rw [Bool.and_eq_true, decide_eq_true_iff, decide_eq_true_iff] at h
  exact h
end
end Go.Proofs.YtogpghpgnpoioaaGreatDoor
