/- PROVED: SearchPage returns true for every input, and what came in reads behind the call as it did. Conditions: none beside the row's own (the listed variables hold what the program's own text lays in them). -/
import Derived.Test.YtlakomilichhnaaGreatDoorZCdB22
import Derived.Test.YtlakomilichhnaaGreatDoorZLawSrA
import Derived.Test.YtlakomilichhnaaGreatDoorZCdR22
import Derived.Test.YtlakomilichhnaaGreatDoorZCdW22
import Derived.WideKeyArgs
import Derived.ChangeMaps5
namespace Go.Proofs.YtlakomilichhnaaGreatDoor.searchPage
open Go.ChangeShapes Go.WideShapes Go.ChangeAt Go.RowKit Go.Deep
set_option maxRecDepth 100000

theorem own : ownKnob Tryz.prog.godebug = none := by kernel_rfl

theorem contract (H : Type) (enc : TypeId × Value → H) (W : World) (base : Nat) (args : Array Value) (ds gs : List (DataW H)) (before : List MemPlace)
    (hval : ∀ (j : Nat) t v, Tryz.f5.params[j]? = some t → args[j]? = some v → Value.okWide Tryz.prog W .any base t v)
    (hW : DataW.Whole enc Tryz.prog Tryz.f5.params.toList Rows.searchPageSpec.vars false W args.toList ds gs before) (hL : laidMetH Tryz.prog Rows.searchPageRow.laid W) (hsh : W.ShapedOpen Tryz.prog) (hsz : (DataW.weightsEach Tryz.prog (Tryz.f5.params.toList ++ (OpenSpec.ofChange Rows.searchPageSpec).bare.plain.varTypes Tryz.prog) (ds ++ gs)).all (· ≤ reachBytes) = true) :
    Calls Tryz.prog 5 args W fun e W' => ∃ v, e = .returned v ∧ Rows.searchPageSpec.post enc Tryz.prog Tryz.f5 false true false false W args v W' := by
  have hG : G W := G_of (show laidMetH Tryz.prog Rows.searchPageRow.laid W from hL) hsh
  have hW' := hW
  obtain ⟨p, q, hA0, hV, rfl, hfz, hnd⟩ := hW
  have hA : DataW.TrodAll enc Tryz.prog W 0 (fun _ => true) true Tryz.f5.params.toList args.toList ds p := hA0
  rw [Tryz.params5] at hA hval hsz
  obtain ⟨v0, v1, v2, d0, d1, d2, p0, p1, p2, rfl, rfl, rfl, h0, h1, h2⟩ := trodAll_three hA
  obtain ⟨rfl, rfl⟩ := trodVars_none hV
  have hw0 : Wt Tryz.prog 35 d0 := Wt.arg hsz (j := 0) rfl rfl
  have hw1 : Wt Tryz.prog 3 d1 := Wt.arg hsz (j := 1) rfl rfl
  have hw2 : Wt Tryz.prog 3 d2 := Wt.arg hsz (j := 2) rfl rfl
  obtain ⟨is0, a0, c0, rfl, hI0⟩ := open_ints hw0 (hval 0 35 v0 rfl rfl) h0
  obtain ⟨n1, rfl, _, _⟩ := open_int14 (hval 1 3 v1 rfl rfl) h1
  obtain ⟨n2, rfl, _, _⟩ := open_int14 (hval 2 3 v2 rfl rfl) h2
  clear hA0
  simp only [List.append_nil] at hW'
  refine (page_law is0 a0 c0 n1 n2 W hG hI0).mono fun e W' ⟨he, hg⟩ => ?_
  subst he
  exact ⟨_, rfl, post_of_below (pa := p0 ++ (p1 ++ (p2))) (pv := []) hW' (fun _ _ _ => trodAll_mk1 (shut_bool Tryz.underlying4 _)) (fun sp hsp => trodAll_mk3 (WideElems.Trod_stays (by kernel_rfl) (by kernel_rfl) (of_decide_eq_true (by kernel_rfl)) h0 (fun p hp => hg.same (hW'.lt p (List.mem_append_left _ (List.mem_append_left _ hp)))) (fun p hp => hsp p (List.mem_append_left _ (List.mem_append_left _ hp)))) (WideElems.Trod_stays (by kernel_rfl) (by kernel_rfl) (of_decide_eq_true (by kernel_rfl)) h1 (fun p hp => hg.same (hW'.lt p (List.mem_append_left _ (List.mem_append_right _ hp)))) (fun p hp => hsp p (List.mem_append_left _ (List.mem_append_right _ hp)))) (WideElems.Trod_stays (by kernel_rfl) (by kernel_rfl) (of_decide_eq_true (by kernel_rfl)) h2 (fun p hp => hg.same (hW'.lt p (List.mem_append_right _ hp))) (fun p hp => hsp p (List.mem_append_right _ hp)))) (fun _ _ => rfl) (by simp) hg (ok_one (by kernel_rfl) rfl (okWide_bool_mk Tryz.underlying4 _))⟩

def wit : Array Value := #[.slice none 0 0, .int .i64 0, .int .i64 0]

theorem reads (os : Os) {H : Type} (enc : TypeId × Value → H) : ∃ places, DataW.whole enc Tryz.prog ((World.laidAll Tryz.prog os Rows.searchPageRow.laid).forCall (fun _ _ => 0) ⟨#[], wit, []⟩).memory Tryz.f5.params.toList Rows.searchPageSpec.vars false wit.toList 8 = some ([.nil, .lit (.int .i64 0), .lit (.int .i64 0)], [], places) :=
  ⟨[], by kernel_rfl⟩

theorem wok (os : Os) : Input.okWideB Tryz.prog ((World.laidAll Tryz.prog os Rows.searchPageRow.laid).forCall (fun _ _ => 0) ⟨#[], wit, []⟩) 5 ⟨#[], wit, []⟩ = true := by kernel_rfl
theorem wsz (os : Os) {H : Type} (enc : TypeId × Value → H) : (OpenSpec.ofChange Rows.searchPageSpec).bare.sizedB enc Tryz.prog Tryz.f5 false ((World.laidAll Tryz.prog os Rows.searchPageRow.laid).forCall (fun _ _ => 0) ⟨#[], wit, []⟩).memory wit 8 = true := by kernel_rfl

theorem c_wf : Rows.searchPageRow.wf (OpenSpec.ofChange Rows.searchPageSpec) = true := by kernel_rfl
theorem c_par : (Tryz.f5.params.all (Tryz.prog.readableRec ·) && namedTie Tryz.prog Rows.searchPageRow.named (OpenSpec.ofChange Rows.searchPageSpec).bare.vars) = true := by kernel_rfl
theorem c_in : (Rows.searchPageRow.inPlace == Tryz.prog.inPlace 5) = true := by kernel_rfl
theorem c_un : (Rows.searchPageRow.unfollowed == Tryz.prog.unfollowed 5) = true := by kernel_rfl
theorem c_re : (Rows.searchPageRow.recurses == Tryz.prog.recurses 5) = true := by kernel_rfl
theorem c_na : (Rows.searchPageRow.named == Tryz.prog.varsNamed 5) = true := by kernel_rfl
theorem c_fn : Tryz.prog.funcNamed Rows.searchPageRow.func = some 5 := by kernel_rfl
theorem c_wt : Rows.searchPageRow.wfByText (OpenSpec.ofChange Rows.searchPageSpec) = true := by kernel_rfl
theorem c_goes : false = Rows.searchPageRow.goesBy Tryz.prog := by kernel_rfl
theorem c_main : Tryz.prog.mainIs = some (Rows.searchPageCard.stood.harness.1, Rows.searchPageCard.stood.harness.2.toList) := by kernel_rfl
theorem closed : joinedFacts Tryz.prog 5 Tryz.f5 (OpenSpec.ofChange Rows.searchPageSpec).bare Rows.searchPageRow = true :=
  joined_of c_wf p_laid p_rowed c_par rfl p_stops rfl p_knobs c_in c_un c_re c_na (by kernel_rfl) (by kernel_rfl) p_heard p_enter (by kernel_rfl) (by kernel_rfl)

theorem lifted (os : Os) (started : os.Started) (H : Type) (enc : TypeId × Value → H) (F : Stop.Interp) :
    ReturnsInHanded {} Tryz.checked os 5 .any ((OpenSpec.ofChange Rows.searchPageSpec).preRow enc Tryz.prog Tryz.f5 Rows.searchPageRow.domain false Rows.searchPageRow.laid) (((OpenSpec.ofChange Rows.searchPageSpec).at F).post enc Tryz.prog Tryz.f5 false true false false) := by
  obtain ⟨places, hx⟩ := reads os enc
  refine returnsInHanded_of_row (C := Tryz.checked) (s := OpenSpec.ofChange Rows.searchPageSpec) own started (by kernel_rfl) Tryz.func5
    (witness_row_atRef (enc := enc) (C := Tryz.checked) false (World.laidAll Tryz.prog os Rows.searchPageRow.laid) wit (World.laidAll_os _ _ _) (lay_vars os wit) (lay_heap os wit) (wok os)
      (OpenSpec.preRow_of_cond 8 hx (by kernel_rfl) (fun k hk => by cases hk) (wsz os enc) (laidMet_laidAll _ (lay_fits os) (lay_ifaces os)))) ?_
  intro W base args ds gs before hval hW _ _ hsz hL hsh _
  exact contract H enc W base args ds gs before hval hW hL hsh hsz

theorem said : Rows.SearchPageSaid :=
  OpenClaim.holds_of_cond 5 Tryz.f5 rfl rfl rfl rfl rfl rfl rfl ⟨rfl, rfl, rfl, rfl, rfl⟩ rfl rfl rfl rfl rfl c_fn Tryz.func5 closed
    (of_decide_eq_true (by kernel_rfl)) (by unfold Func.isWrapper; first | (rw [if_pos (by decide +kernel)]; kernel_rfl) | (rw [if_neg (by decide +kernel)]; exact ⟨rfl, rfl⟩))
    (fun os started H enc _ F => by rw [OpenClaim.pre_eq_preRow]; exact lifted os started H enc F)

/-- No parameter wants a stand-in; the program's own looks: what the card asks. -/
theorem plain (f : FuncId) (fn : Func) (hf : Tryz.pinned.checked.prog.funcNamed "library/librarylaw22.SearchPage" = some f) (hfn : Tryz.pinned.checked.prog.funcs[f]? = some fn) :
    true = Tryz.pinned.checked.prog.looks [] ∧ ∀ (j : Nat) t, fn.params[j]? = some t → Tryz.pinned.checked.prog.wantsStandIn t = false := by
  obtain rfl : f = 5 := Option.some.inj ((show Tryz.prog.funcNamed "library/librarylaw22.SearchPage" = some 5 from c_fn).symm.trans hf) |>.symm
  obtain rfl : fn = Tryz.f5 := (Option.some.inj (Tryz.func5.symm.trans hfn)).symm
  refine ⟨by kernel_rfl, fun j t ht => ?_⟩
  rw [Tryz.params5] at ht
  obtain rfl | rfl : t = 35 ∨ t = 3 := by simpa using Array.mem_of_getElem? ht
  · exact (show Tryz.prog.wantsStandIn 35 = false by kernel_rfl)
  · exact (show Tryz.prog.wantsStandIn 3 = false by kernel_rfl)

/-- The card. -/
theorem card : Rows.SearchPageCardSaid :=
  Claim7.holds_tied_plain_at .later [] _ _ _ _ said (fun _ h => by cases h) c_wt (fun _ h => by cases h) searchPage_row_tie rfl ⟨rfl, rfl⟩ c_main rfl plain c_goes
end Go.Proofs.YtlakomilichhnaaGreatDoor.searchPage
