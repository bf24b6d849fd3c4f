/- PROVED: SearchPages returns true for every input, and what came in reads behind the call as it did. Conditions: none beside the row's own (the listed variables hold what the program's own text lays in them). -/
import Derived.Test.YtlakomilichhnaaGreatDoorZCdB22
import Derived.Test.YtlakomilichhnaaGreatDoorZLawSrA
import Derived.Test.YtlakomilichhnaaGreatDoorZCdR22
import Derived.Test.YtlakomilichhnaaGreatDoorZCdW22
import Derived.WideKeyArgs
import Derived.ChangeMaps5
namespace Go.Proofs.YtlakomilichhnaaGreatDoor.searchPages
open Go.ChangeShapes Go.WideShapes Go.ChangeAt Go.RowKit Go.Deep
set_option maxRecDepth 100000

theorem own : ownKnob Tryz.prog.godebug = none := by kernel_rfl

theorem contract (H : Type) (enc : TypeId × Value → H) (W : World) (base : Nat) (args : Array Value) (ds gs : List (DataW H)) (before : List MemPlace)
    (hval : ∀ (j : Nat) t v, Tryz.f7.params[j]? = some t → args[j]? = some v → Value.okWide Tryz.prog W .any base t v)
    (hW : DataW.Whole enc Tryz.prog Tryz.f7.params.toList Rows.searchPagesSpec.vars false W args.toList ds gs before) (hL : laidMetH Tryz.prog Rows.searchPagesRow.laid W) (hsh : W.ShapedOpen Tryz.prog) (hsz : (DataW.weightsEach Tryz.prog (Tryz.f7.params.toList ++ (OpenSpec.ofChange Rows.searchPagesSpec).bare.plain.varTypes Tryz.prog) (ds ++ gs)).all (· ≤ reachBytes) = true) :
    Calls Tryz.prog 7 args W fun e W' => ∃ v, e = .returned v ∧ Rows.searchPagesSpec.post enc Tryz.prog Tryz.f7 false true false false W args v W' := by
  have hG : G W := G_of (show laidMetH Tryz.prog Rows.searchPageRow.laid W from hL) hsh
  have hW' := hW
  obtain ⟨p, q, hA0, hV, rfl, hfz, hnd⟩ := hW
  have hA : DataW.TrodAll enc Tryz.prog W 0 (fun _ => true) true Tryz.f7.params.toList args.toList ds p := hA0
  rw [Tryz.params7] at hA hval hsz
  obtain ⟨v0, v1, d0, d1, p0, p1, rfl, rfl, rfl, h0, h1⟩ := trodAll_two hA
  obtain ⟨rfl, rfl⟩ := trodVars_none hV
  have hw0 : Wt Tryz.prog 35 d0 := Wt.arg hsz (j := 0) rfl rfl
  have hw1 : Wt Tryz.prog 3 d1 := Wt.arg hsz (j := 1) rfl rfl
  obtain ⟨is0, a0, c0, rfl, hI0⟩ := open_ints hw0 (hval 0 35 v0 rfl rfl) h0
  obtain ⟨n1, rfl, _, _⟩ := open_int14 (hval 1 3 v1 rfl rfl) h1
  clear hA0
  simp only [List.append_nil] at hW'
  refine (pages_law is0 a0 c0 n1 W hG hI0).mono fun e W' ⟨he, hg⟩ => ?_
  subst he
  exact ⟨_, rfl, post_of_below (pa := p0 ++ p1) (pv := []) hW' (fun _ _ _ => trodAll_mk1 (shut_bool Tryz.underlying4 _)) (fun sp hsp => trodAll_mk2 (WideElems.Trod_stays (by kernel_rfl) (by kernel_rfl) (of_decide_eq_true (by kernel_rfl)) h0 (fun p hp => hg.same (hW'.lt p (List.mem_append_left _ hp))) (fun p hp => hsp p (List.mem_append_left _ hp))) (WideElems.Trod_stays (by kernel_rfl) (by kernel_rfl) (of_decide_eq_true (by kernel_rfl)) h1 (fun p hp => hg.same (hW'.lt p (List.mem_append_right _ hp))) (fun p hp => hsp p (List.mem_append_right _ hp)))) (fun _ _ => rfl) (by simp) hg (ok_one (by kernel_rfl) rfl (okWide_bool_mk Tryz.underlying4 _))⟩

def wit : Array Value := #[.slice none 0 0, .int .i64 0]

theorem reads (os : Os) {H : Type} (enc : TypeId × Value → H) : ∃ places, DataW.whole enc Tryz.prog ((World.laidAll Tryz.prog os Rows.searchPagesRow.laid).forCall (fun _ _ => 0) ⟨#[], wit, []⟩).memory Tryz.f7.params.toList Rows.searchPagesSpec.vars false wit.toList 8 = some ([.nil, .lit (.int .i64 0)], [], places) :=
  ⟨[], by kernel_rfl⟩

theorem wok (os : Os) : Input.okWideB Tryz.prog ((World.laidAll Tryz.prog os Rows.searchPagesRow.laid).forCall (fun _ _ => 0) ⟨#[], wit, []⟩) 7 ⟨#[], wit, []⟩ = true := by kernel_rfl
theorem wsz (os : Os) {H : Type} (enc : TypeId × Value → H) : (OpenSpec.ofChange Rows.searchPagesSpec).bare.sizedB enc Tryz.prog Tryz.f7 false ((World.laidAll Tryz.prog os Rows.searchPagesRow.laid).forCall (fun _ _ => 0) ⟨#[], wit, []⟩).memory wit 8 = true := by kernel_rfl

theorem c_wf : Rows.searchPagesRow.wf (OpenSpec.ofChange Rows.searchPagesSpec) = true := by kernel_rfl
theorem c_par : (Tryz.f7.params.all (Tryz.prog.readableRec ·) && namedTie Tryz.prog Rows.searchPagesRow.named (OpenSpec.ofChange Rows.searchPagesSpec).bare.vars) = true := by kernel_rfl
theorem c_in : (Rows.searchPagesRow.inPlace == Tryz.prog.inPlace 7) = true := by kernel_rfl
theorem c_un : (Rows.searchPagesRow.unfollowed == Tryz.prog.unfollowed 7) = true := by kernel_rfl
theorem c_re : (Rows.searchPagesRow.recurses == Tryz.prog.recurses 7) = true := by kernel_rfl
theorem c_na : (Rows.searchPagesRow.named == Tryz.prog.varsNamed 7) = true := by kernel_rfl
theorem c_fn : Tryz.prog.funcNamed Rows.searchPagesRow.func = some 7 := by kernel_rfl
theorem c_wt : Rows.searchPagesRow.wfByText (OpenSpec.ofChange Rows.searchPagesSpec) = true := by kernel_rfl
theorem c_goes : false = Rows.searchPagesRow.goesBy Tryz.prog := by kernel_rfl
theorem c_main : Tryz.prog.mainIs = some (Rows.searchPagesCard.stood.harness.1, Rows.searchPagesCard.stood.harness.2.toList) := by kernel_rfl
theorem closed : joinedFacts Tryz.prog 7 Tryz.f7 (OpenSpec.ofChange Rows.searchPagesSpec).bare Rows.searchPagesRow = true :=
  joined_of c_wf p_laid p_rowed c_par rfl p_stops rfl p_knobs c_in c_un c_re c_na (by kernel_rfl) (by kernel_rfl) p_heard p_enter (by kernel_rfl) (by kernel_rfl)

theorem lifted (os : Os) (started : os.Started) (H : Type) (enc : TypeId × Value → H) (F : Stop.Interp) :
    ReturnsInHanded {} Tryz.checked os 7 .any ((OpenSpec.ofChange Rows.searchPagesSpec).preRow enc Tryz.prog Tryz.f7 Rows.searchPagesRow.domain false Rows.searchPagesRow.laid) (((OpenSpec.ofChange Rows.searchPagesSpec).at F).post enc Tryz.prog Tryz.f7 false true false false) := by
  obtain ⟨places, hx⟩ := reads os enc
  refine returnsInHanded_of_row (C := Tryz.checked) (s := OpenSpec.ofChange Rows.searchPagesSpec) own started (by kernel_rfl) Tryz.func7
    (witness_row_atRef (enc := enc) (C := Tryz.checked) false (World.laidAll Tryz.prog os Rows.searchPagesRow.laid) wit (World.laidAll_os _ _ _) (lay_vars os wit) (lay_heap os wit) (wok os)
      (OpenSpec.preRow_of_cond 8 hx (by kernel_rfl) (fun k hk => by cases hk) (wsz os enc) (laidMet_laidAll _ (lay_fits os) (lay_ifaces os)))) ?_
  intro W base args ds gs before hval hW _ _ hsz hL hsh _
  exact contract H enc W base args ds gs before hval hW hL hsh hsz

theorem said : Rows.SearchPagesSaid :=
  OpenClaim.holds_of_cond 7 Tryz.f7 rfl rfl rfl rfl rfl rfl rfl ⟨rfl, rfl, rfl, rfl, rfl⟩ rfl rfl rfl rfl rfl c_fn Tryz.func7 closed
    (of_decide_eq_true (by kernel_rfl)) (by unfold Func.isWrapper; first | (rw [if_pos (by decide +kernel)]; kernel_rfl) | (rw [if_neg (by decide +kernel)]; exact ⟨rfl, rfl⟩))
    (fun os started H enc _ F => by rw [OpenClaim.pre_eq_preRow]; exact lifted os started H enc F)

/-- No parameter wants a stand-in; the program's own looks: what the card asks. -/
theorem plain (f : FuncId) (fn : Func) (hf : Tryz.pinned.checked.prog.funcNamed "library/librarylaw22.SearchPages" = some f) (hfn : Tryz.pinned.checked.prog.funcs[f]? = some fn) :
    true = Tryz.pinned.checked.prog.looks [] ∧ ∀ (j : Nat) t, fn.params[j]? = some t → Tryz.pinned.checked.prog.wantsStandIn t = false := by
  obtain rfl : f = 7 := Option.some.inj ((show Tryz.prog.funcNamed "library/librarylaw22.SearchPages" = some 7 from c_fn).symm.trans hf) |>.symm
  obtain rfl : fn = Tryz.f7 := (Option.some.inj (Tryz.func7.symm.trans hfn)).symm
  refine ⟨by kernel_rfl, fun j t ht => ?_⟩
  rw [Tryz.params7] at ht
  obtain rfl | rfl : t = 35 ∨ t = 3 := by simpa using Array.mem_of_getElem? ht
  · exact (show Tryz.prog.wantsStandIn 35 = false by kernel_rfl)
  · exact (show Tryz.prog.wantsStandIn 3 = false by kernel_rfl)

/-- The card. -/
theorem card : Rows.SearchPagesCardSaid :=
  Claim7.holds_tied_plain_at .later [] _ _ _ _ said (fun _ h => by cases h) c_wt (fun _ h => by cases h) searchPages_row_tie rfl ⟨rfl, rfl⟩ c_main rfl plain c_goes
end Go.Proofs.YtlakomilichhnaaGreatDoor.searchPages
