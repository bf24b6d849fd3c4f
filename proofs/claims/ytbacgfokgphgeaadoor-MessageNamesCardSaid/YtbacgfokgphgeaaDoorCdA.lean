/- Layer 41: what the rows' lists give, and how a message that came in is opened and read again. -/
import Derived.Test.YtbacgfokgphgeaaDoorLawRights
import Derived.Test.YtbacgfokgphgeaaDoorLawPrints
import Derived.Test.YtbacgfokgphgeaaDoorLawParses
import Derived.Test.YtbacgfokgphgeaaDoorLawRestores
import Derived.Test.YtbacgfokgphgeaaDoorLawUnique
import Derived.Test.YtbacgfokgphgeaaDoorCards
import Derived.Test.YtbacgfokgphgeaaDoorTie
import Derived.ProofKit
import Derived.OpenShut
import Derived.ShutString
import Derived.Lay
import Derived.PinnedBridge
import Derived.Lib.LaidU8T
import Derived.Deep.DeepWitnessRowRef
import Derived.Deep.Fields
import Derived.ChangeArms
namespace Go.Proofs.YtbacgfokgphgeaaDoor
open Go.ChangeShapes Go.WideShapes Go.ChangeAt Go.RowKit Go.Deep
set_option maxRecDepth 100000

section
variable {H : Type} {enc : TypeId × Value → H} {P : Program}
theorem mapM_same {α β : Type} {g h : α → Option β} : ∀ (l : List α), (∀ a ∈ l, g a = h a) → l.mapM g = l.mapM h
  | [], _ => rfl
  | a :: l, e => by
    rw [List.mapM_cons, List.mapM_cons, e a (by simp), mapM_same l (fun b hb => e b (List.mem_cons_of_mem _ hb))]
/-- A type of numbers, bools, strings and structs of such: its reading does not look at the world. -/
def flatT (P : Program) : Nat → TypeId → Bool
  | 0, _ => false
  | n + 1, t => match P.underlying t with
    | some .bool => true
    | some (.int _) => true
    | some .string => true
    | some (.struct fs) => fs.toList.all fun f => flatT P n f.type
    | _ => false
theorem trod_flat (w w' : World) (b b' : Nat) (sp sp' : Nat → Bool) (hd hd' : Bool) : ∀ (m : Nat) (t : TypeId), flatT P m t = true → ∀ (fuel : Nat) (cs : List Value), DataW.trod enc P w b sp hd fuel t cs = DataW.trod enc P w' b' sp' hd' fuel t cs
  | 0, t, h => by simp [flatT] at h
  | m + 1, t, h => by
    intro fuel cs
    cases fuel with
    | zero => rfl
    | succ fuel =>
      unfold flatT at h
      split at h
      · rename_i hu
        unfold DataW.trod
        rw [hu]
        rcases cs with _ | ⟨v, _ | ⟨u, cs⟩⟩
        · rfl
        · cases v <;> rfl
        · cases v <;> rfl
      · rename_i hu
        unfold DataW.trod
        rw [hu]
        rcases cs with _ | ⟨v, _ | ⟨u, cs⟩⟩
        · rfl
        · cases v <;> rfl
        · cases v <;> rfl
      · rename_i hu
        unfold DataW.trod
        rw [hu]
        rcases cs with _ | ⟨v, _ | ⟨u, cs⟩⟩
        · rfl
        · cases v <;> rfl
        · cases v <;> rfl
      · rename_i fs hu
        unfold DataW.trod
        rw [hu]
        simp only
        rw [mapM_same _ (fun f hf => trod_flat w w' b b' sp sp' hd hd' m f.type (List.all_eq_true.1 h f hf) fuel _)]
      · cases h
theorem Trod_flat {w : World} (w' : World) {b : Nat} (b' : Nat) {sp : Nat → Bool} (sp' : Nat → Bool) {hd : Bool} (hd' : Bool) (m : Nat) {t : TypeId} (hm : flatT P m t = true) {v : Value} {d : DataW H} {p : List MemPlace} (h : DataW.Trod enc P w b sp hd t v d p) : DataW.Trod enc P w' b' sp' hd' t v d p := by
  obtain ⟨fuel, hf⟩ := h
  exact ⟨fuel, by rw [trod_flat w' w b' b sp' sp hd' hd m t hm]; exact hf⟩

/-- The row's last step, where of the world behind it is known that all that was there is as it was. -/
theorem post_of_below {f : Func} {s : ChangeSpec} {apart fresh handsOn again : Bool} {W W' : World} {args : Array Value} {v : Value} {ds gs : List (DataW H)} {before pa pv : List MemPlace}
    (hW : DataW.Whole enc P f.params.toList s.vars apart W args.toList ds gs before)
    (hres : ∀ (b : Nat) (sp : Nat → Bool) (hd : Bool), DataW.TrodAll enc P W' b sp hd f.resultTypes.toList (v.resultList f.resultTypes.size) (s.fn H (ds ++ gs)).results [])
    (hargs : ∀ sp : Nat → Bool, (∀ p ∈ before, sp p.block = true) → DataW.TrodAll enc P W' 0 sp true f.params.toList args.toList (s.fn H (ds ++ gs)).args pa)
    (hvars : ∀ sp : Nat → Bool, (∀ p ∈ before, sp p.block = true) → DataW.TrodVars enc P W' sp s.vars (s.fn H (ds ++ gs)).vars pv)
    (hps : before = pa ++ pv) (hb : Below W.heap.size W W')
    (hok : ∀ (j : Nat) (t : TypeId) (r : Value), f.resultTypes[j]? = some t → (v.resultList f.resultTypes.size)[j]? = some r → Value.okWide P W' .any 0 t r) :
    s.post enc P f apart fresh handsOn again W args v W' := by
  have hlt : ∀ p ∈ before, p.block < W.heap.size := fun p hp => hW.lt p hp
  have hold : ∀ p ∈ before, (fun b => decide (b < W.heap.size)) p.block = true := fun p hp => by simpa using hlt p hp
  refine ⟨ds, gs, before, [], pa, pv, hW, hres _ _ _, hargs _ hold, hvars _ hold, World.keptBut_mono (fun p hp => ⟨hp, ?_⟩) (hb.frame (· ∈ before)), fun _ => ?_⟩
  · rw [hps, List.mem_append] at hp
    exact Or.inr hp
  · obtain ⟨_, _, _, _, _, hz, hn⟩ := hW
    refine ⟨hok, _, _, ([] ++ pa) ++ pv, ⟨[] ++ pa, pv, trodAll_append (hargs _ (fun _ _ => rfl)) (hres _ _ _), hvars _ (fun _ _ => rfl), rfl, ?_, ?_⟩, ?_⟩
    · intro b off hp
      have hin : MemPlace.cell b off ∈ before := by rw [hps]; simpa using hp
      rw [hb.frozen (hlt _ hin)]
      exact hz b off hin
    · intro ha
      have := hn ha
      rw [hps] at this
      simpa using this
    · intro p hp _
      rw [hps]
      simpa using hp

/-- A struct of seven integers and a string, opened. -/
theorem open_msg8 {w : World} {base b0 : Nat} {spare : Nat → Bool} {held : Bool} {r0 : Reach} {ty : TypeId} {f0 f1 f2 f3 f4 f5 f6 f7 : Field} {v : Value} {dd : DataW H} {p : List MemPlace} (hs : P.underlying ty = some (.struct #[f0, f1, f2, f3, f4, f5, f6, f7]))
    (hone : oneCellFields P #[f0, f1, f2, f3, f4, f5, f6, f7] = true) (hC : P.cellsOf ty = 8)
    (i0 : P.underlying f0.type = some (.int .i64)) (i1 : P.underlying f1.type = some (.int .i64)) (i2 : P.underlying f2.type = some (.int .i64)) (i3 : P.underlying f3.type = some (.int .i64)) (i4 : P.underlying f4.type = some (.int .i64)) (i5 : P.underlying f5.type = some (.int .i64)) (i6 : P.underlying f6.type = some (.int .i64)) (i7 : P.underlying f7.type = some .string)
    (hv : Value.okWide P w r0 b0 ty v) (h : DataW.Trod enc P w base spare held ty v dd p) :
    ∃ (f t r s k rc d : Int) (n : ByteArray), v = .agg #[.int .i64 f, .int .i64 t, .int .i64 r, .int .i64 s, .int .i64 k, .int .i64 rc, .int .i64 d, .string n] ∧ n.size ≤ maxLen := by
  obtain ⟨cs, rfl, hsz⟩ := okWide_struct hs hv
  obtain ⟨l⟩ := cs
  match l, hsz.trans hC with
  | [c0, c1, c2, c3, c4, c5, c6, c7], _ =>
    obtain ⟨fuel, hf⟩ := h
    obtain ⟨xs, n, _, hx, _, hlen, hg⟩ := DataW.trod_struct hs hf
    obtain ⟨o0, k0⟩ := hone_of hone 0 f0 rfl
    obtain ⟨o1, k1⟩ := hone_of hone 1 f1 rfl
    obtain ⟨o2, k2⟩ := hone_of hone 2 f2 rfl
    obtain ⟨o3, k3⟩ := hone_of hone 3 f3 rfl
    obtain ⟨o4, k4⟩ := hone_of hone 4 f4 rfl
    obtain ⟨o5, k5⟩ := hone_of hone 5 f5 rfl
    obtain ⟨o6, k6⟩ := hone_of hone 6 f6 rfl
    obtain ⟨o7, k7⟩ := hone_of hone 7 f7 rfl
    match xs, hlen with
    | [y0, y1, y2, y3, y4, y5, y6, y7], _ =>
      obtain ⟨f, e0, _, _⟩ := DataW.trod_int i0 (by simpa [Value.cells, o0, k0] using hg 0 f0 rfl)
      obtain ⟨t, e1, _, _⟩ := DataW.trod_int i1 (by simpa [Value.cells, o1, k1] using hg 1 f1 rfl)
      obtain ⟨r, e2, _, _⟩ := DataW.trod_int i2 (by simpa [Value.cells, o2, k2] using hg 2 f2 rfl)
      obtain ⟨s, e3, _, _⟩ := DataW.trod_int i3 (by simpa [Value.cells, o3, k3] using hg 3 f3 rfl)
      obtain ⟨k, e4, _, _⟩ := DataW.trod_int i4 (by simpa [Value.cells, o4, k4] using hg 4 f4 rfl)
      obtain ⟨rc, e5, _, _⟩ := DataW.trod_int i5 (by simpa [Value.cells, o5, k5] using hg 5 f5 rfl)
      obtain ⟨d, e6, _, _⟩ := DataW.trod_int i6 (by simpa [Value.cells, o6, k6] using hg 6 f6 rfl)
      obtain ⟨n, e7, _, hn⟩ := DataW.trod_string i7 (by simpa [Value.cells, o7, k7] using hg 7 f7 rfl)
      refine ⟨f, t, r, s, k, rc, d, n, ?_, hn⟩
      injection e0 with e0; injection e1 with e1; injection e2 with e2; injection e3 with e3; injection e4 with e4; injection e5 with e5; injection e6 with e6; injection e7 with e7
      rw [e0, e1, e2, e3, e4, e5, e6, e7]

/-- A variable of one cell whose type is an integer's holds some integer. -/
theorem int_of_shape {w : World} {g : Nat} {t : TypeId} {k : IntKind} {zero : Array Value} (h : w.ShapedOpen P) (hg : g < P.globals.size)
    (h0 : ((begin P (fun _ _ => 0) default).world.heap[g]?).bind Obj.row? = some (zero, t)) (hz : zero.size = 1)
    (hb : P.buildable t = true) (hc : P.cellTypes P.depth t = some [t]) (hu : P.underlying t = some (.int k)) : ∃ m, w.cell? ⟨g, 0, none⟩ = some (.int k m) := by
  obtain ⟨cs, hh, hs, hr⟩ := h.1 g zero t hg h0
  obtain ⟨ts, hts, _, hall⟩ := hr hb
  rw [hc] at hts
  cases hts
  have h1 : 0 < cs.size := by omega
  obtain ⟨u, hu', hok⟩ := hall 0 cs[0] (by simp [h1])
  have : u = t := by simpa using hu'.symm
  subst this
  have hcell : w.cell? ⟨g, 0, none⟩ = some cs[0] := by simp [World.cell?, hh, h1]
  rw [hcell]
  unfold Cell.ok at hok
  rw [hu] at hok
  cases hv : cs[0] <;> rw [hv] at hok <;> first | (simp at hok; done) | skip
  obtain ⟨e, _⟩ : _ ∧ _ := hok
  subst e
  exact ⟨_, rfl⟩

/-- A listed interface value stands in the variable's cell. -/
theorem iface_of_reads {w : World} {nm u : String} {y : DataW Unit} {g : Nat} {t : TypeId} {ms : Array (String × TypeId)} (h : Lib.VarReads P w nm (.iface u y)) (hg : P.globalNamed nm = some g) (hty : (P.globals[g]?).map (·.type) = some t) (hu : P.underlying t = some (.interface ms)) :
    ∃ te pe, w.cell? ⟨g, 0, none⟩ = some (.iface te pe) := by
  obtain ⟨g', t', cs, fuel, p, h1, h2, h3, h4⟩ := h
  obtain rfl := Option.some.inj (hg.symm.trans h1)
  obtain rfl := Option.some.inj (hty.symm.trans h2)
  rw [World.var?_cell hg h3 0]
  cases fuel with
  | zero => simp [DataW.trod] at h4
  | succ fuel =>
    unfold DataW.trod at h4
    rw [hu] at h4
    split at h4 <;> first | (exfalso; simp at h4; done) | skip
    all_goals (rename_i h5 h6; first | (exfalso; cases h5; done) | exact ⟨_, _, by rw [← Array.getElem?_toList, h6]; rfl⟩)
end

/-- The numbers of the types and variables that Go's tables lie in. -/
theorem u8x : U8Extra Tryd.prog Tryd.lays196_ren := ⟨by kernel_rfl, by kernel_rfl, by kernel_rfl, by kernel_rfl, by kernel_rfl, by kernel_rfl, by kernel_rfl⟩
theorem acc_eq : Lib.acceptData = Rows.laid_unicode_utf8_acceptRanges := by kernel_rfl
theorem pow_eq : Lib.tabData .u64 Lib.pow10Tab = (Rows.laid_internal_strconv_uint64pow10 : DataW Unit) := by kernel_rfl

/-- WHAT THE ROW's LIST GIVES, AND THE WORLD's SHAPE. -/
theorem G_of {W : World} (h0 : laidMetH Tryd.prog Rows.messageRightsRow.laid W) (hsh : W.ShapedOpen Tryd.prog) : G W := by
  have h : laidMet Tryd.prog Rows.messageRightsRow.laid W := h0
  have hp : Lib.VarReads Tryd.prog W "internal/strconv.uint64pow10" (Lib.tabData .u64 Lib.pow10Tab) := by rw [pow_eq]; exact Lib.laidMet.reads h (.tail _ (.tail _ (.head _)))
  have ha : Lib.VarReads Tryd.prog W "unicode/utf8.acceptRanges" Lib.acceptData := by rw [acc_eq]; exact Lib.laidMet.reads h (.tail _ (.tail _ (.tail _ (.head _))))
  have hr : Lib.VarReads Tryd.prog W "strconv.ErrRange" Rows.laid_strconv_ErrRange := Lib.laidMet.reads h (.tail _ (.tail _ (.tail _ (.tail _ (.head _)))))
  have hs : Lib.VarReads Tryd.prog W "strconv.ErrSyntax" Rows.laid_strconv_ErrSyntax := Lib.laidMet.reads h (.tail _ (.tail _ (.tail _ (.tail _ (.tail _ (.head _))))))
  have hf : Lib.VarReads Tryd.prog W "unicode/utf8.first" Lib.firstData := by rw [← Pinned.utf8First_eq]; exact Lib.laidMet.reads h (.tail _ (.tail _ (.tail _ (.tail _ (.tail _ (.tail _ (.head _)))))))
  have hp10 : Lib.TabIs Tryd.prog W "internal/strconv.uint64pow10" .u64 Lib.pow10Tab := by
    obtain ⟨g, t, cs, fuel, p, hg, hty, hvar, hd⟩ := hp
    obtain rfl := Option.some.inj ((show Tryd.prog.globalNamed "internal/strconv.uint64pow10" = some 2 by kernel_rfl).symm.trans hg)
    obtain rfl := Option.some.inj ((show (Tryd.prog.globals[2]?).map (·.type) = some 102 by kernel_rfl).symm.trans hty)
    unfold Lib.TabIs
    rw [hvar, ← Lib.cells_of_tab (show Tryd.prog.underlying 102 = some (.array 20 83) by kernel_rfl) (show Tryd.prog.underlying 83 = some (.int .u64) by kernel_rfl) (by kernel_rfl) (by kernel_rfl) hd]
  have hpc := hp10.cell (show Tryd.prog.globalNamed "internal/strconv.uint64pow10" = some 2 by kernel_rfl) 0 (by decide)
  have hlo : 2 < W.heap.size := by
    rcases Nat.lt_or_ge 2 W.heap.size with h1 | h1
    · exact h1
    · exfalso
      have h2 : W.heap[2]? = none := Array.getElem?_eq_none h1
      simp [World.cell?, h2] at hpc
  exact ⟨utf8Tabs_of_readsT (U8Types.of196 Tryd.lays196) u8x hf ha, hp10,
    int_of_shape hsh (g := 3) (t := 3) (zero := #[.int .i64 0]) (of_decide_eq_true (by kernel_rfl)) (by kernel_rfl) rfl (by kernel_rfl) (by kernel_rfl) Tryd.underlying3,
    iface_of_reads hs (g := 4) (t := 57) (by kernel_rfl) (by kernel_rfl) Tryd.underlying57,
    iface_of_reads hr (g := 5) (t := 57) (by kernel_rfl) (by kernel_rfl) Tryd.underlying57, hlo⟩
end Go.Proofs.YtbacgfokgphgeaaDoor
