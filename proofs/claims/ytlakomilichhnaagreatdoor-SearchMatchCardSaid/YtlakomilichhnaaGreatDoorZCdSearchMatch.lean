/- PROVED: SearchMatch returns true for every input, and what came in reads behind the call as it did. Conditions: none beside the row's own (the listed variables hold what the program's own text lays in them). -/
import Derived.Test.YtlakomilichhnaaGreatDoorZCdB22
import Derived.Test.YtlakomilichhnaaGreatDoorYMLawSrB
import Derived.Test.YtlakomilichhnaaGreatDoorYMCdR22
import Derived.Test.YtlakomilichhnaaGreatDoorZCdR22
import Derived.Test.YtlakomilichhnaaGreatDoorZCdW22
import Derived.WideKeyArgs
import Derived.ChangeMaps5
import Derived.Test.YtlakomilichhnaaGreatDoorYMOt
import Derived.Test.YtlakomilichhnaaGreatDoorYMShelf
import Derived.Test.YtlakomilichhnaaGreatDoorYMOl
import Derived.Test.YtlakomilichhnaaGreatDoorYMOb
import Derived.Test.YtlakomilichhnaaGreatDoorYMOr
import Derived.Test.YtlakomilichhnaaGreatDoorYMOe
import Derived.Test.YtlakomilichhnaaGreatDoorYMOc
import Derived.Test.YtlakomilichhnaaGreatDoorYMOh
import Derived.Test.YtlakomilichhnaaGreatDoorYMOf
import Derived.Test.YtlakomilichhnaaGreatDoorYMOj
import Derived.Test.YtlakomilichhnaaGreatDoorYMOm
import Derived.Test.YtlakomilichhnaaGreatDoorYMShelfB
import Derived.Test.YtlakomilichhnaaGreatDoorYMPb
import Derived.Test.YtlakomilichhnaaGreatDoorYMPd
import Derived.Test.YtlakomilichhnaaGreatDoorYMOx
import Derived.Test.YtlakomilichhnaaGreatDoorYMSqT
import Derived.Test.YtlakomilichhnaaGreatDoorYMPe
namespace Go.Proofs.YtlakomilichhnaaGreatDoor
set_option maxRecDepth 100000
open Go.RowKit
open List renaming mem_append_left→Bx,mem_append_right→Cj
open OpenSpec renaming ofChange→Bg
open Proofs.Tryz renaming f8→O8,prog→A3,underlying4→BI
open World renaming laidAll→E0
namespace searchMatch
open Go.ChangeShapes Go.WideShapes Go.ChangeAt Go.Deep
theorem own : ownKnob A3.godebug = none := by kernel_rfl
theorem contract (H : Type) (enc : TypeId × Value → H) (W : World) (base : Nat) (args : Array Value) (ds gs : List (DataW H)) (before : List MemPlace)
    (hval : ∀ (j : Nat) t v, Tryz.f8.params[j]? = some t → args[j]? = some v → Value.okWide A3 W .any base t v)
    (hW : DataW.Whole enc A3 O8.params.toList Rows.searchMatchSpec.vars false W args.toList ds gs before) (hL : laidMetH A3 Rows.searchMatchRow.laid W) (hsh : W.ShapedOpen A3) (hsz : (DataW.weightsEach A3 (O8.params.toList ++ (Bg Rows.searchMatchSpec).bare.plain.varTypes A3) (ds ++ gs)).all (· ≤ reachBytes) = true) :
    Calls A3 8 args W fun e W' => ∃ v, e = .returned v ∧ Rows.searchMatchSpec.post enc A3 Tryz.f8 false true false false W args v W' := by
  have hG : G W := G_of (show laidMetH A3 Rows.searchPageRow.laid W from hL) hsh
  have hW' := hW
  obtain ⟨p, q, hA0, hV, rfl, hfz, hnd⟩ := hW
  have hA : DataW.TrodAll enc A3 W 0 (fun _ => true) true O8.params.toList args.toList ds p := hA0
  rw [Tryz.params8] at hA hval hsz
  obtain ⟨v0, v1, d0, d1, p0, p1, rfl, rfl, rfl, h0, h1⟩ := trodAll_two hA
  obtain ⟨rfl, rfl⟩ := trodVars_none hV
  have hw0 : Wt A3 51 d0 := Wt.arg hsz (j := 0) rfl rfl
  have hw1 : Wt A3 29 d1 := Wt.arg hsz (j := 1) rfl rfl
  obtain ⟨fs0, a0, c0, id0, ver0, kind0, lang0, rfl, hR0, _, _⟩ := open_record hw0 (hval 0 51 v0 rfl rfl) h0
  obtain ⟨q1, cs1, rfl, hQ1⟩ := open_query (hval 1 29 v1 rfl rfl) h1
  clear hA0
  simp only [List.append_nil] at hW'
  refine (match_law ⟨id0, ver0, kind0, lang0, fs0⟩ a0 c0 0 q1 cs1 W hG hR0 hQ1).mono fun e W' ⟨he, hg⟩ => ?_
  subst he
  exact ⟨_, rfl, post_of_below (pa := p0 ++ p1) (pv := []) hW' (fun _ _ _ => trodAll_mk1 (shut_bool BI _)) (fun sp hsp => trodAll_mk2 (WideElems.Trod_stays (by kernel_rfl) (by kernel_rfl) (of_decide_eq_true (by kernel_rfl)) h0 (fun p hp => hg.same (hW'.lt p (Bx _ hp))) (fun p hp => hsp p (Bx _ hp))) (WideElems.Trod_stays (by kernel_rfl) (by kernel_rfl) (of_decide_eq_true (by kernel_rfl)) h1 (fun p hp => hg.same (hW'.lt p (Cj _ hp))) (fun p hp => hsp p (Cj _ hp)))) (fun _ _ => rfl) (by simp) hg (ok_one (by kernel_rfl) rfl (okWide_bool_mk BI _))⟩
def wit : Array Value := #[.agg #[.int .i64 0, .int .i64 0, .int .i64 0, .string ⟨#[]⟩, .slice none 0 0], .agg #[.int .i64 0, .int .i64 0, .slice none 0 0, .int .i64 0, .int .i64 0, .slice none 0 0]]
theorem reads (os : Os) {H : Type} (enc : TypeId × Value → H) : ∃ places, DataW.whole enc A3 ((E0 A3 os Rows.searchMatchRow.laid).forCall (fun _ _ => 0) ⟨#[], wit, []⟩).memory O8.params.toList Rows.searchMatchSpec.vars false wit.toList 8 = some ([.agg [.lit (.int .i64 0), .lit (.int .i64 0), .lit (.int .i64 0), .lit (.string []), .nil], .agg [.lit (.int .i64 0), .lit (.int .i64 0), .nil, .lit (.int .i64 0), .lit (.int .i64 0), .nil]], [], places) :=
  ⟨[], by kernel_rfl⟩
theorem wok (os : Os) : Input.okWideB A3 ((E0 A3 os Rows.searchMatchRow.laid).forCall (fun _ _ => 0) ⟨#[], wit, []⟩) 8 ⟨#[], wit, []⟩ = true := by kernel_rfl
theorem wsz (os : Os) {H : Type} (enc : TypeId × Value → H) : (Bg Rows.searchMatchSpec).bare.sizedB enc A3 Tryz.f8 false ((E0 A3 os Rows.searchMatchRow.laid).forCall (fun _ _ => 0) ⟨#[], wit, []⟩).memory wit 8 = true := by kernel_rfl
theorem c_wf : Rows.searchMatchRow.wf (Bg Rows.searchMatchSpec) = true := by kernel_rfl
theorem c_par : (Tryz.f8.params.all (A3.readableRec ·) && namedTie A3 Rows.searchMatchRow.named (Bg Rows.searchMatchSpec).bare.vars) = true := by kernel_rfl
theorem c_in : (Rows.searchMatchRow.inPlace == A3.inPlace 8) = true := by kernel_rfl
theorem c_un : (Rows.searchMatchRow.unfollowed == A3.unfollowed 8) = true := by kernel_rfl
theorem c_re : (Rows.searchMatchRow.recurses == A3.recurses 8) = true := by kernel_rfl
theorem c_na : (Rows.searchMatchRow.named == A3.varsNamed 8) = true := by kernel_rfl
theorem c_fn : A3.funcNamed Rows.searchMatchRow.func = some 8 := by kernel_rfl
theorem c_wt : Rows.searchMatchRow.wfByText (Bg Rows.searchMatchSpec) = true := by kernel_rfl
theorem c_goes : false = Rows.searchMatchRow.goesBy A3 := by kernel_rfl
theorem c_main : A3.mainIs = some (Rows.searchMatchCard.stood.harness.1, Rows.searchMatchCard.stood.harness.2.toList) := by kernel_rfl
theorem closed : joinedFacts A3 8 Tryz.f8 (Bg Rows.searchMatchSpec).bare Rows.searchMatchRow = true :=
  joined_of c_wf p_laid p_rowed c_par rfl p_stops rfl p_knobs c_in c_un c_re c_na (by kernel_rfl) (by kernel_rfl) p_heard p_enter (by kernel_rfl) (by kernel_rfl)
theorem lifted (os : Os) (started : os.Started) (H : Type) (enc : TypeId × Value → H) (F : Stop.Interp) :
    ReturnsInHanded {} Tryz.checked os 8 .any ((Bg Rows.searchMatchSpec).preRow enc A3 Tryz.f8 Rows.searchMatchRow.domain false Rows.searchMatchRow.laid) (((Bg Rows.searchMatchSpec).at F).post enc A3 Tryz.f8 false true false false) := by
  obtain ⟨places, hx⟩ := reads os enc
  refine returnsInHanded_of_row (C := Tryz.checked) (s := Bg Rows.searchMatchSpec) own started (by kernel_rfl) Tryz.func8
    (witness_row_atRef (enc := enc) (C := Tryz.checked) false (E0 A3 os Rows.searchMatchRow.laid) wit (World.laidAll_os _ _ _) (lay_vars os wit) (lay_heap os wit) (wok os)
      (OpenSpec.preRow_of_cond 8 hx (by kernel_rfl) (fun k hk => by cases hk) (wsz os enc) (laidMet_laidAll _ (lay_fits os) (lay_ifaces os)))) ?_
  intro W base args ds gs before hval hW _ _ hsz hL hsh _
  exact contract H enc W base args ds gs before hval hW hL hsh hsz
theorem said : Rows.SearchMatchSaid :=
  OpenClaim.holds_of_cond 8 Tryz.f8 rfl rfl rfl rfl rfl rfl rfl ⟨rfl, rfl, rfl, rfl, rfl⟩ rfl rfl rfl rfl rfl c_fn Tryz.func8 closed
    (of_decide_eq_true (by kernel_rfl)) (by unfold Func.isWrapper; first | (rw [if_pos (by decide +kernel)]; kernel_rfl) | (rw [if_neg (by decide +kernel)]; exact ⟨rfl, rfl⟩))
    (fun os started H enc _ F => by rw [OpenClaim.pre_eq_preRow]; exact lifted os started H enc F)
/-- No parameter wants a stand-in; the program's own looks: what the card asks. -/
theorem plain (f : FuncId) (fn : Func) (hf : Tryz.pinned.checked.prog.funcNamed "library/librarylaw22.SearchMatch" = some f) (hfn : Tryz.pinned.checked.prog.funcs[f]? = some fn) :
    true = Tryz.pinned.checked.prog.looks [] ∧ ∀ (j : Nat) t, fn.params[j]? = some t → Tryz.pinned.checked.prog.wantsStandIn t = false := by
  obtain rfl : f = 8 := Option.some.inj ((show A3.funcNamed "library/librarylaw22.SearchMatch" = some 8 from c_fn).symm.trans hf) |>.symm
  obtain rfl : fn = Tryz.f8 := (Option.some.inj (Tryz.func8.symm.trans hfn)).symm
  refine ⟨by kernel_rfl, fun j t ht => ?_⟩
  rw [Tryz.params8] at ht
  obtain rfl | rfl : t = 51 ∨ t = 29 := by simpa using Array.mem_of_getElem? ht
  · exact (show A3.wantsStandIn 51 = false by kernel_rfl)
  · exact (show A3.wantsStandIn 29 = false by kernel_rfl)
/-- The card. -/
theorem card : Rows.SearchMatchCardSaid :=
  Claim7.holds_tied_plain_at .later [] _ _ _ _ said (fun _ h => by cases h) c_wt (fun _ h => by cases h) searchMatch_row_tie rfl ⟨rfl, rfl⟩ c_main rfl plain c_goes
end searchMatch
end Go.Proofs.YtlakomilichhnaaGreatDoor
