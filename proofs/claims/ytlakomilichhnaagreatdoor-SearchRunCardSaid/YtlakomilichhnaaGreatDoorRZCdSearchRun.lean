/- PROVED: SearchRun returns true for every input, and what came in reads behind the call as it did. Conditions: none beside the row's own (the listed variables hold what the program's own text lays in them). -/
import Derived.Test.YtlakomilichhnaaGreatDoorRCdB22
import Derived.Test.YtlakomilichhnaaGreatDoorRPf
import Derived.Test.YtlakomilichhnaaGreatDoorRCdW22
namespace Go.Proofs.YtlakomilichhnaaGreatDoor
set_option maxRecDepth 100000
open Go.RowKit
open List renaming mem_append_left->Cr,mem_append_right->DZ
open OpenSpec renaming ofChange->Ep
open Proofs.Tryz renaming f6->Mr,prog->A8,underlying4->BO
open WideElems renaming Trod_stays->Me
open World renaming laidAll->Ie
namespace searchRun
open Go.ChangeShapes Go.WideShapes Go.ChangeAt Go.Deep
theorem own : ownKnob Tryz.prog.godebug = none := by kernel_rfl
theorem contract (H : Type) (enc : TypeId × Value -> H) (W : World) (base : Nat) (args : Array Value) (ds gs : List (DataW H)) (before : List MemPlace)
    (hval : ∀ (j : Nat) t v, Tryz.f6.params[j]? = some t -> args[j]? = some v -> Value.okWide A8 W .any base t v)
    (hW : DataW.Whole enc A8 Mr.params.toList Rows.searchRunSpec.vars false W args.toList ds gs before) (hL : laidMetH A8 Rows.searchRunRow.laid W) (hsh : W.ShapedOpen A8) (hsz : (DataW.weightsEach A8 (Mr.params.toList ++ (Ep Rows.searchRunSpec).bare.plain.varTypes A8) (ds ++ gs)).all (· <= reachBytes) = true) :
    Calls A8 6 args W fun e W' => ∃ v, e = .returned v /\ Rows.searchRunSpec.post enc A8 Tryz.f6 false true false false W args v W' := by
  have hG : G W := G_of (show laidMetH A8 Rows.searchPageRow.laid W from hL) hsh;have hW' := hW;obtain ⟨p, q, hA0, hV, rfl, hfz, hnd⟩ := hW;have hA : DataW.TrodAll enc A8 W 0 (fun _ => true) true Mr.params.toList args.toList ds p := hA0;rw [Tryz.params6] at hA hval hsz;obtain ⟨v0, v1, v2, d0, d1, d2, p0, p1, p2, rfl, rfl, rfl, h0, h1, h2⟩ := trodAll_three hA;obtain ⟨rfl, rfl⟩ := trodVars_none hV;have hw0 : Wt A8 25 d0 := Wt.arg hsz (j := 0) rfl rfl;have hw1 : Wt A8 9 d1 := Wt.arg hsz (j := 1) rfl rfl;have hw2 : Wt A8 39 d2 := Wt.arg hsz (j := 2) rfl rfl;obtain ⟨rs0, a0, c0, rfl, hR0, _⟩ := open_records hw0 (hval 0 25 v0 rfl rfl) h0;obtain ⟨s1, rfl, _, _, _⟩ := Go.ChangeMaps.open_string Tryz.underlying9 (hval 1 9 v1 rfl rfl) h1;obtain ⟨n2, s2, rfl⟩ := open_way (hval 2 39 v2 rfl rfl) h2;clear hA0;simp only [List.append_nil] at hW';refine (run_law rs0 a0 c0 s1 n2 s2 W hG hR0).mono fun e W' ⟨he, hg⟩ => ?_;subst he;exact ⟨_, rfl, post_of_below (pa := p0 ++ (p1 ++ (p2))) (pv := []) hW' (fun _ _ _ => trodAll_mk1 (shut_bool BO _)) (fun sp hsp => trodAll_mk3 (Me oJ oJ (of_decide_eq_true oJ) h0 (fun p hp => hg.same (hW'.lt p (Cr _ (Cr _ hp)))) (fun p hp => hsp p (Cr _ (Cr _ hp)))) (Me oJ oJ (of_decide_eq_true oJ) h1 (fun p hp => hg.same (hW'.lt p (Cr _ (DZ _ hp)))) (fun p hp => hsp p (Cr _ (DZ _ hp)))) (Me oJ oJ (of_decide_eq_true oJ) h2 (fun p hp => hg.same (hW'.lt p (DZ _ hp))) (fun p hp => hsp p (DZ _ hp)))) (fun _ _ => rfl) oZ hg (ok_one oJ rfl (okWide_bool_mk BO _))⟩
def wit : Array Value := #[.slice none 0 0, .string ⟨#[]⟩, .agg #[.int .i64 0, .string ⟨#[]⟩]]
theorem reads (os : Os) {H : Type} (enc : TypeId × Value -> H) : ∃ places, DataW.whole enc A8 ((Ie A8 os Rows.searchRunRow.laid).forCall (fun _ _ => 0) ⟨#[], wit, []⟩).memory Mr.params.toList Rows.searchRunSpec.vars false wit.toList 8 = some ([.nil, .lit (.string []), .agg [.lit (.int .i64 0), .lit (.string [])]], [], places) :=
  ⟨[], by kernel_rfl⟩
theorem wok (os : Os) : Input.okWideB A8 ((Ie A8 os Rows.searchRunRow.laid).forCall (fun _ _ => 0) ⟨#[], wit, []⟩) 6 ⟨#[], wit, []⟩ = true := by kernel_rfl
theorem wsz (os : Os) {H : Type} (enc : TypeId × Value -> H) : (Ep Rows.searchRunSpec).bare.sizedB enc A8 Tryz.f6 false ((Ie A8 os Rows.searchRunRow.laid).forCall (fun _ _ => 0) ⟨#[], wit, []⟩).memory wit 8 = true := by kernel_rfl
theorem c_wf : Rows.searchRunRow.wf (Ep Rows.searchRunSpec) = true := by kernel_rfl
theorem c_par : (Tryz.f6.params.all (Tryz.prog.readableRec ·) && namedTie A8 Rows.searchRunRow.named (Ep Rows.searchRunSpec).bare.vars) = true := by kernel_rfl
theorem c_in : (Rows.searchRunRow.inPlace == Tryz.prog.inPlace 6) = true := by kernel_rfl
theorem c_un : (Rows.searchRunRow.unfollowed == Tryz.prog.unfollowed 6) = true := by kernel_rfl
theorem c_re : (Rows.searchRunRow.recurses == Tryz.prog.recurses 6) = true := by kernel_rfl
theorem c_na : (Rows.searchRunRow.named == Tryz.prog.varsNamed 6) = true := by kernel_rfl
theorem c_fn : Tryz.prog.funcNamed Rows.searchRunRow.func = some 6 := by kernel_rfl
theorem c_wt : Rows.searchRunRow.wfByText (Ep Rows.searchRunSpec) = true := by kernel_rfl
theorem c_goes : false = Rows.searchRunRow.goesBy A8 := by kernel_rfl
theorem c_main : Tryz.prog.mainIs = some (Rows.searchRunCard.stood.harness.1, Rows.searchRunCard.stood.harness.2.toList) := by kernel_rfl
theorem closed : joinedFacts A8 6 Tryz.f6 (Ep Rows.searchRunSpec).bare Rows.searchRunRow = true :=
  joined_of c_wf p_laid p_rowed c_par rfl p_stops rfl p_knobs c_in c_un c_re c_na oJ oJ p_heard p_enter oJ oJ
theorem lifted (os : Os) (started : os.Started) (H : Type) (enc : TypeId × Value -> H) (F : Stop.Interp) :
    ReturnsInHanded {} Tryz.checked os 6 .any ((Ep Rows.searchRunSpec).preRow enc A8 Tryz.f6 Rows.searchRunRow.domain false Rows.searchRunRow.laid) (((Ep Rows.searchRunSpec).at F).post enc A8 Tryz.f6 false true false false) := by
  obtain ⟨places, hx⟩ := reads os enc
  refine returnsInHanded_of_row (C := Tryz.checked) (s := Ep Rows.searchRunSpec) own started oJ Tryz.func6
    (witness_row_atRef (enc := enc) (C := Tryz.checked) false (Ie A8 os Rows.searchRunRow.laid) wit (World.laidAll_os _ _ _) (lay_vars os wit) (lay_heap os wit) (wok os)
      (OpenSpec.preRow_of_cond 8 hx oJ (fun k hk => by cases hk) (wsz os enc) (laidMet_laidAll _ (lay_fits os) (lay_ifaces os)))) ?_
  intro W base args ds gs before hval hW _ _ hsz hL hsh _;exact contract H enc W base args ds gs before hval hW hL hsh hsz
theorem said : Rows.SearchRunSaid :=
  OpenClaim.holds_of_cond 6 Tryz.f6 rfl rfl rfl rfl rfl rfl rfl ⟨rfl, rfl, rfl, rfl, rfl⟩ rfl rfl rfl rfl rfl c_fn Tryz.func6 closed
    (of_decide_eq_true oJ) (by unfold Func.isWrapper; first | (rw [if_pos qQ]; kernel_rfl) | (rw [if_neg qQ]; exact ⟨rfl, rfl⟩))
    (fun os started H enc _ F => by rw [OpenClaim.pre_eq_preRow]; exact lifted os started H enc F)
/-- No parameter wants a stand-in; the program's own looks: what the card asks. -/
theorem plain (f : FuncId) (fn : Func) (hf : Tryz.pinned.checked.prog.funcNamed "library/librarylaw22.SearchRun" = some f) (hfn : Tryz.pinned.checked.prog.funcs[f]? = some fn) :
    true = Tryz.pinned.checked.prog.looks [] /\ ∀ (j : Nat) t, fn.params[j]? = some t -> Tryz.pinned.checked.prog.wantsStandIn t = false := by
  obtain rfl : f = 6 := Option.some.inj ((show Tryz.prog.funcNamed "library/librarylaw22.SearchRun" = some 6 from c_fn).symm.trans hf) |>.symm
  obtain rfl : fn = Tryz.f6 := (Option.some.inj (Tryz.func6.symm.trans hfn)).symm;refine ⟨by kernel_rfl, fun j t ht => ?_⟩;rw [Tryz.params6] at ht;obtain rfl | rfl | rfl : t = 25 \/ t = 9 \/ t = 39 := by simpa using Array.mem_of_getElem? ht
  · exact (show A8.wantsStandIn 25 = false by kernel_rfl)
  · exact (show A8.wantsStandIn 9 = false by kernel_rfl)
  · exact (show A8.wantsStandIn 39 = false by kernel_rfl)
/-- The card. -/
theorem card : Rows.SearchRunCardSaid :=
  Claim7.holds_tied_plain_at .later [] _ _ _ _ said (fun _ h => by cases h) c_wt (fun _ h => by cases h) searchRun_row_tie rfl ⟨rfl, rfl⟩ c_main rfl plain c_goes
end searchRun
end Go.Proofs.YtlakomilichhnaaGreatDoor
