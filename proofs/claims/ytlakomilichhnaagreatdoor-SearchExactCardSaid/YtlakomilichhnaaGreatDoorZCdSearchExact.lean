/- PROVED: SearchExact returns true for every input, and what came in reads behind the call as it did. Conditions: none beside the row's own (the listed variables hold what the program's own text lays in them). -/
import Derived.Test.YtlakomilichhnaaGreatDoorZCdB22
import Derived.Test.YtlakomilichhnaaGreatDoorYXLawSrC
import Derived.Test.YtlakomilichhnaaGreatDoorYXCdR22
import Derived.Test.YtlakomilichhnaaGreatDoorZCdR22
import Derived.Test.YtlakomilichhnaaGreatDoorZCdW22
import Derived.WideKeyArgs
import Derived.ChangeMaps5
import Derived.Test.YtlakomilichhnaaGreatDoorYXOt
import Derived.Test.YtlakomilichhnaaGreatDoorYXShelf
import Derived.Test.YtlakomilichhnaaGreatDoorYXOl
import Derived.Test.YtlakomilichhnaaGreatDoorYXOb
import Derived.Test.YtlakomilichhnaaGreatDoorYXOr
import Derived.Test.YtlakomilichhnaaGreatDoorYXOe
import Derived.Test.YtlakomilichhnaaGreatDoorYXOc
import Derived.Test.YtlakomilichhnaaGreatDoorYXOh
import Derived.Test.YtlakomilichhnaaGreatDoorYXOf
import Derived.Test.YtlakomilichhnaaGreatDoorYXOj
import Derived.Test.YtlakomilichhnaaGreatDoorYXOm
import Derived.Test.YtlakomilichhnaaGreatDoorYXShelfB
import Derived.Test.YtlakomilichhnaaGreatDoorYXOo
import Derived.Test.YtlakomilichhnaaGreatDoorYXPb
import Derived.Test.YtlakomilichhnaaGreatDoorYXPd
import Derived.Test.YtlakomilichhnaaGreatDoorYXOx
import Derived.Test.YtlakomilichhnaaGreatDoorYXPf
namespace Go.Proofs.YtlakomilichhnaaGreatDoor
set_option maxRecDepth 100000
open Go.RowKit
open List renaming mem_append_left→Bx,mem_append_right→Cj
open OpenSpec renaming ofChange→Bg
open Proofs.Tryz renaming f9→O7,prog→A3,underlying4→BI
open WideElems renaming Trod_stays→En
open World renaming laidAll→E0
namespace searchExact
open Go.ChangeShapes Go.WideShapes Go.ChangeAt Go.Deep
theorem own : ownKnob A3.godebug = none := by kernel_rfl
theorem contract (H : Type) (enc : TypeId × Value → H) (W : World) (base : Nat) (args : Array Value) (ds gs : List (DataW H)) (before : List MemPlace)
    (hval : ∀ (j : Nat) t v, Tryz.f9.params[j]? = some t → args[j]? = some v → Value.okWide A3 W .any base t v)
    (hW : DataW.Whole enc A3 O7.params.toList Rows.searchExactSpec.vars false W args.toList ds gs before) (hL : laidMetH A3 Rows.searchExactRow.laid W) (hsh : W.ShapedOpen A3) (hsz : (DataW.weightsEach A3 (O7.params.toList ++ (Bg Rows.searchExactSpec).bare.plain.varTypes A3) (ds ++ gs)).all (· ≤ reachBytes) = true) :
    Calls A3 9 args W fun e W' => ∃ v, e = .returned v ∧ Rows.searchExactSpec.post enc A3 Tryz.f9 false true false false W args v W' := by
  have hG : G W := G_of (show laidMetH A3 Rows.searchPageRow.laid W from hL) hsh
  have hW' := hW
  obtain ⟨p, q, hA0, hV, rfl, hfz, hnd⟩ := hW
  have hA : DataW.TrodAll enc A3 W 0 (fun _ => true) true O7.params.toList args.toList ds p := hA0
  rw [Tryz.params9] at hA hval hsz
  obtain ⟨v0, v1, v2, d0, d1, d2, p0, p1, p2, rfl, rfl, rfl, h0, h1, h2⟩ := trodAll_three hA
  obtain ⟨rfl, rfl⟩ := trodVars_none hV
  have hw0 : Wt A3 25 d0 := Wt.arg hsz (j := 0) rfl rfl
  have hw1 : Wt A3 29 d1 := Wt.arg hsz (j := 1) rfl rfl
  have hw2 : Wt A3 3 d2 := Wt.arg hsz (j := 2) rfl rfl
  obtain ⟨rs0, a0, c0, rfl, hR0, _⟩ := open_records hw0 (hval 0 25 v0 rfl rfl) h0
  obtain ⟨q1, cs1, rfl, hQ1⟩ := open_query (hval 1 29 v1 rfl rfl) h1
  obtain ⟨n2, rfl, _, _⟩ := open_int14 (hval 2 3 v2 rfl rfl) h2
  clear hA0
  simp only [List.append_nil] at hW'
  refine (exact_law rs0 a0 c0 0 q1 cs1 n2 W hG hR0 hQ1).mono fun e W' ⟨he, hg⟩ => ?_
  subst he
  exact ⟨_, rfl, post_of_below (pa := p0 ++ (p1 ++ (p2))) (pv := []) hW' (fun _ _ _ => trodAll_mk1 (shut_bool BI _)) (fun sp hsp => trodAll_mk3 (En (by kernel_rfl) (by kernel_rfl) (of_decide_eq_true (by kernel_rfl)) h0 (fun p hp => hg.same (hW'.lt p (Bx _ (Bx _ hp)))) (fun p hp => hsp p (Bx _ (Bx _ hp)))) (En (by kernel_rfl) (by kernel_rfl) (of_decide_eq_true (by kernel_rfl)) h1 (fun p hp => hg.same (hW'.lt p (Bx _ (Cj _ hp)))) (fun p hp => hsp p (Bx _ (Cj _ hp)))) (En (by kernel_rfl) (by kernel_rfl) (of_decide_eq_true (by kernel_rfl)) h2 (fun p hp => hg.same (hW'.lt p (Cj _ hp))) (fun p hp => hsp p (Cj _ hp)))) (fun _ _ => rfl) (by simp) hg (ok_one (by kernel_rfl) rfl (okWide_bool_mk BI _))⟩
def wit : Array Value := #[.slice none 0 0, .agg #[.int .i64 0, .int .i64 0, .slice none 0 0, .int .i64 0, .int .i64 0, .slice none 0 0], .int .i64 0]
theorem reads (os : Os) {H : Type} (enc : TypeId × Value → H) : ∃ places, DataW.whole enc A3 ((E0 A3 os Rows.searchExactRow.laid).forCall (fun _ _ => 0) ⟨#[], wit, []⟩).memory O7.params.toList Rows.searchExactSpec.vars false wit.toList 8 = some ([.nil, .agg [.lit (.int .i64 0), .lit (.int .i64 0), .nil, .lit (.int .i64 0), .lit (.int .i64 0), .nil], .lit (.int .i64 0)], [], places) :=
  ⟨[], by kernel_rfl⟩
theorem wok (os : Os) : Input.okWideB A3 ((E0 A3 os Rows.searchExactRow.laid).forCall (fun _ _ => 0) ⟨#[], wit, []⟩) 9 ⟨#[], wit, []⟩ = true := by kernel_rfl
theorem wsz (os : Os) {H : Type} (enc : TypeId × Value → H) : (Bg Rows.searchExactSpec).bare.sizedB enc A3 Tryz.f9 false ((E0 A3 os Rows.searchExactRow.laid).forCall (fun _ _ => 0) ⟨#[], wit, []⟩).memory wit 8 = true := by kernel_rfl
theorem c_wf : Rows.searchExactRow.wf (Bg Rows.searchExactSpec) = true := by kernel_rfl
theorem c_par : (Tryz.f9.params.all (A3.readableRec ·) && namedTie A3 Rows.searchExactRow.named (Bg Rows.searchExactSpec).bare.vars) = true := by kernel_rfl
theorem c_in : (Rows.searchExactRow.inPlace == A3.inPlace 9) = true := by kernel_rfl
theorem c_un : (Rows.searchExactRow.unfollowed == A3.unfollowed 9) = true := by kernel_rfl
theorem c_re : (Rows.searchExactRow.recurses == A3.recurses 9) = true := by kernel_rfl
theorem c_na : (Rows.searchExactRow.named == A3.varsNamed 9) = true := by kernel_rfl
theorem c_fn : A3.funcNamed Rows.searchExactRow.func = some 9 := by kernel_rfl
theorem c_wt : Rows.searchExactRow.wfByText (Bg Rows.searchExactSpec) = true := by kernel_rfl
theorem c_goes : false = Rows.searchExactRow.goesBy A3 := by kernel_rfl
theorem c_main : A3.mainIs = some (Rows.searchExactCard.stood.harness.1, Rows.searchExactCard.stood.harness.2.toList) := by kernel_rfl
theorem closed : joinedFacts A3 9 Tryz.f9 (Bg Rows.searchExactSpec).bare Rows.searchExactRow = true :=
  joined_of c_wf p_laid p_rowed c_par rfl p_stops rfl p_knobs c_in c_un c_re c_na (by kernel_rfl) (by kernel_rfl) p_heard p_enter (by kernel_rfl) (by kernel_rfl)
theorem lifted (os : Os) (started : os.Started) (H : Type) (enc : TypeId × Value → H) (F : Stop.Interp) :
    ReturnsInHanded {} Tryz.checked os 9 .any ((Bg Rows.searchExactSpec).preRow enc A3 Tryz.f9 Rows.searchExactRow.domain false Rows.searchExactRow.laid) (((Bg Rows.searchExactSpec).at F).post enc A3 Tryz.f9 false true false false) := by
  obtain ⟨places, hx⟩ := reads os enc
  refine returnsInHanded_of_row (C := Tryz.checked) (s := Bg Rows.searchExactSpec) own started (by kernel_rfl) Tryz.func9
    (witness_row_atRef (enc := enc) (C := Tryz.checked) false (E0 A3 os Rows.searchExactRow.laid) wit (World.laidAll_os _ _ _) (lay_vars os wit) (lay_heap os wit) (wok os)
      (OpenSpec.preRow_of_cond 8 hx (by kernel_rfl) (fun k hk => by cases hk) (wsz os enc) (laidMet_laidAll _ (lay_fits os) (lay_ifaces os)))) ?_
  intro W base args ds gs before hval hW _ _ hsz hL hsh _
  exact contract H enc W base args ds gs before hval hW hL hsh hsz
theorem said : Rows.SearchExactSaid :=
  OpenClaim.holds_of_cond 9 Tryz.f9 rfl rfl rfl rfl rfl rfl rfl ⟨rfl, rfl, rfl, rfl, rfl⟩ rfl rfl rfl rfl rfl c_fn Tryz.func9 closed
    (of_decide_eq_true (by kernel_rfl)) (by unfold Func.isWrapper; first | (rw [if_pos (by decide +kernel)]; kernel_rfl) | (rw [if_neg (by decide +kernel)]; exact ⟨rfl, rfl⟩))
    (fun os started H enc _ F => by rw [OpenClaim.pre_eq_preRow]; exact lifted os started H enc F)
/-- No parameter wants a stand-in; the program's own looks: what the card asks. -/
theorem plain (f : FuncId) (fn : Func) (hf : Tryz.pinned.checked.prog.funcNamed "library/librarylaw22.SearchExact" = some f) (hfn : Tryz.pinned.checked.prog.funcs[f]? = some fn) :
    true = Tryz.pinned.checked.prog.looks [] ∧ ∀ (j : Nat) t, fn.params[j]? = some t → Tryz.pinned.checked.prog.wantsStandIn t = false := by
  obtain rfl : f = 9 := Option.some.inj ((show A3.funcNamed "library/librarylaw22.SearchExact" = some 9 from c_fn).symm.trans hf) |>.symm
  obtain rfl : fn = Tryz.f9 := (Option.some.inj (Tryz.func9.symm.trans hfn)).symm
  refine ⟨by kernel_rfl, fun j t ht => ?_⟩
  rw [Tryz.params9] at ht
  obtain rfl | rfl | rfl : t = 25 ∨ t = 29 ∨ t = 3 := by simpa using Array.mem_of_getElem? ht
  · exact (show A3.wantsStandIn 25 = false by kernel_rfl)
  · exact (show A3.wantsStandIn 29 = false by kernel_rfl)
  · exact (show A3.wantsStandIn 3 = false by kernel_rfl)
/-- The card. -/
theorem card : Rows.SearchExactCardSaid :=
  Claim7.holds_tied_plain_at .later [] _ _ _ _ said (fun _ h => by cases h) c_wt (fun _ h => by cases h) searchExact_row_tie rfl ⟨rfl, rfl⟩ c_main rfl plain c_goes
end searchExact
end Go.Proofs.YtlakomilichhnaaGreatDoor
