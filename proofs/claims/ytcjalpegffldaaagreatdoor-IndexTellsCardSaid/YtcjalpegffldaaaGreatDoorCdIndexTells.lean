/- PROVED: IndexTells returns true for every input, and what came in reads behind the call as it did. Conditions: none beside the row's own (the listed variables hold what the program's own text lays in them). -/
import Derived.Test.YtcjalpegffldaaaGreatDoorCdB20
import Derived.Test.YtcjalpegffldaaaGreatDoorLawIxE
import Derived.Test.YtcjalpegffldaaaGreatDoorCdR20
import Derived.WideKeyArgs
import Derived.ChangeMaps5
namespace Go.Proofs.YtcjalpegffldaaaGreatDoor.indexTells
open Go.ChangeShapes Go.WideShapes Go.ChangeAt Go.RowKit Go.Deep
set_option maxRecDepth 100000

theorem own : ownKnob Tryz.prog.godebug = none := by kernel_rfl

theorem contract (H : Type) (enc : TypeId × Value → H) (W : World) (base : Nat) (args : Array Value) (ds gs : List (DataW H)) (before : List MemPlace)
    (hval : ∀ (j : Nat) t v, Tryz.f6.params[j]? = some t → args[j]? = some v → Value.okWide Tryz.prog W .any base t v)
    (hW : DataW.Whole enc Tryz.prog Tryz.f6.params.toList Rows.indexTellsSpec.vars false W args.toList ds gs before) (hL : laidMetH Tryz.prog Rows.indexTellsRow.laid W) (hsh : W.ShapedOpen Tryz.prog) (hsz : (DataW.weightsEach Tryz.prog (Tryz.f6.params.toList ++ (OpenSpec.ofChange Rows.indexTellsSpec).bare.plain.varTypes Tryz.prog) (ds ++ gs)).all (· ≤ reachBytes) = true) :
    Calls Tryz.prog 6 args W fun e W' => ∃ v, e = .returned v ∧ Rows.indexTellsSpec.post enc Tryz.prog Tryz.f6 false true false false W args v W' := by
  have hG : G W := G_of (show laidMetH Tryz.prog Rows.indexTermsRow.laid W from hL) hsh
  have hW' := hW
  obtain ⟨p, q, hA0, hV, rfl, hfz, hnd⟩ := hW
  have hA : DataW.TrodAll enc Tryz.prog W 0 (fun _ => true) true Tryz.f6.params.toList args.toList ds p := hA0
  rw [Tryz.params6] at hA hval hsz
  obtain ⟨v0, v1, v2, v3, d0, d1, d2, d3, p0, p1, p2, p3, rfl, rfl, rfl, h0, h1, h2, h3⟩ := trodAll_four hA
  obtain ⟨rfl, rfl⟩ := trodVars_none hV
  have hw0 : Wt Tryz.prog 31 d0 := Wt.arg hsz (j := 0) rfl rfl
  have hw1 : Wt Tryz.prog 3 d1 := Wt.arg hsz (j := 1) rfl rfl
  have hw2 : Wt Tryz.prog 9 d2 := Wt.arg hsz (j := 2) rfl rfl
  have hw3 : Wt Tryz.prog 9 d3 := Wt.arg hsz (j := 3) rfl rfl
  obtain ⟨rs0, a0, c0, rfl, hR0, hz0⟩ := open_records hw0 (hval 0 31 v0 rfl rfl) h0
  obtain ⟨n1, rfl, hl1, hu1⟩ := open_int14 (hval 1 3 v1 rfl rfl) h1
  obtain ⟨s2, rfl, _, _, _⟩ := Go.ChangeMaps.open_string Tryz.underlying9 (hval 2 9 v2 rfl rfl) h2
  obtain ⟨s3, rfl, _, _, _⟩ := Go.ChangeMaps.open_string Tryz.underlying9 (hval 3 9 v3 rfl rfl) h3
  clear hA0
  simp only [List.append_nil] at hW'
  refine (tells_by rs0 a0 c0 n1 s2 s3 W hG hR0 (fun r hr => (hz0 r hr).1)).mono fun e W' ⟨he, hg⟩ => ?_
  subst he
  exact ⟨_, rfl, post_of_below (pa := p0 ++ (p1 ++ (p2 ++ (p3)))) (pv := []) hW' (fun _ _ _ => trodAll_mk1 (shut_bool Tryz.underlying4 _)) (fun sp hsp => trodAll_mk4 (WideElems.Trod_stays (by kernel_rfl) (by kernel_rfl) (of_decide_eq_true (by kernel_rfl)) h0 (fun p hp => hg.same (hW'.lt p (List.mem_append_left _ (List.mem_append_left _ (List.mem_append_left _ hp))))) (fun p hp => hsp p (List.mem_append_left _ (List.mem_append_left _ (List.mem_append_left _ hp))))) (WideElems.Trod_stays (by kernel_rfl) (by kernel_rfl) (of_decide_eq_true (by kernel_rfl)) h1 (fun p hp => hg.same (hW'.lt p (List.mem_append_left _ (List.mem_append_left _ (List.mem_append_right _ hp))))) (fun p hp => hsp p (List.mem_append_left _ (List.mem_append_left _ (List.mem_append_right _ hp))))) (WideElems.Trod_stays (by kernel_rfl) (by kernel_rfl) (of_decide_eq_true (by kernel_rfl)) h2 (fun p hp => hg.same (hW'.lt p (List.mem_append_left _ (List.mem_append_right _ hp)))) (fun p hp => hsp p (List.mem_append_left _ (List.mem_append_right _ hp)))) (WideElems.Trod_stays (by kernel_rfl) (by kernel_rfl) (of_decide_eq_true (by kernel_rfl)) h3 (fun p hp => hg.same (hW'.lt p (List.mem_append_right _ hp))) (fun p hp => hsp p (List.mem_append_right _ hp)))) (fun _ _ => rfl) (by simp) hg (ok_one (by kernel_rfl) rfl (okWide_bool_mk Tryz.underlying4 _))⟩

def wit : Array Value := #[.slice none 0 0, .int .i64 0, .string ⟨#[]⟩, .string ⟨#[]⟩]

theorem reads (os : Os) {H : Type} (enc : TypeId × Value → H) : ∃ places, DataW.whole enc Tryz.prog ((World.laidAll Tryz.prog os Rows.indexTellsRow.laid).forCall (fun _ _ => 0) ⟨#[], wit, []⟩).memory Tryz.f6.params.toList Rows.indexTellsSpec.vars false wit.toList 8 = some ([.nil, .lit (.int .i64 0), .lit (.string []), .lit (.string [])], [], places) :=
  ⟨[], by kernel_rfl⟩

theorem lifted (os : Os) (started : os.Started) (H : Type) (enc : TypeId × Value → H) (F : Stop.Interp) :
    ReturnsInHanded {} Tryz.checked os 6 .any ((OpenSpec.ofChange Rows.indexTellsSpec).preRow enc Tryz.prog Tryz.f6 Rows.indexTellsRow.domain false Rows.indexTellsRow.laid) (((OpenSpec.ofChange Rows.indexTellsSpec).at F).post enc Tryz.prog Tryz.f6 false true false false) := by
  obtain ⟨places, hx⟩ := reads os enc
  refine returnsInHanded_of_row (C := Tryz.checked) (s := OpenSpec.ofChange Rows.indexTellsSpec) own started (by kernel_rfl) Tryz.func6
    (witness_row_atRef (enc := enc) (C := Tryz.checked) false (World.laidAll Tryz.prog os Rows.indexTellsRow.laid) wit (World.laidAll_os _ _ _) (by kernel_rfl) (by kernel_rfl) (by kernel_rfl)
      (OpenSpec.preRow_of_cond 8 hx (by kernel_rfl) (fun k hk => by cases hk) (by kernel_rfl) (laidMet_laidAll _ (by kernel_rfl) (by kernel_rfl)))) ?_
  intro W base args ds gs before hval hW _ _ hsz hL hsh _
  exact contract H enc W base args ds gs before hval hW hL hsh hsz

theorem said : Rows.IndexTellsSaid :=
  OpenClaim.holds_of_cond 6 Tryz.f6 rfl rfl rfl rfl rfl rfl rfl ⟨rfl, rfl, rfl, rfl, rfl⟩ rfl rfl rfl rfl rfl (by kernel_rfl) Tryz.func6 (by kernel_rfl)
    (of_decide_eq_true (by kernel_rfl)) (by unfold Func.isWrapper; first | (rw [if_pos (by decide +kernel)]; kernel_rfl) | (rw [if_neg (by decide +kernel)]; exact ⟨rfl, rfl⟩))
    (fun os started H enc _ F => by rw [OpenClaim.pre_eq_preRow]; exact lifted os started H enc F)

/-- No parameter wants a stand-in; the program's own looks: what the card asks. -/
theorem plain (f : FuncId) (fn : Func) (hf : Tryz.pinned.checked.prog.funcNamed "library/librarylaw20.IndexTells" = some f) (hfn : Tryz.pinned.checked.prog.funcs[f]? = some fn) :
    false = Tryz.pinned.checked.prog.looks [] ∧ ∀ (j : Nat) t, fn.params[j]? = some t → Tryz.pinned.checked.prog.wantsStandIn t = false := by
  obtain rfl : f = 6 := Option.some.inj ((show Tryz.prog.funcNamed "library/librarylaw20.IndexTells" = some 6 by kernel_rfl).symm.trans hf) |>.symm
  obtain rfl : fn = Tryz.f6 := (Option.some.inj (Tryz.func6.symm.trans hfn)).symm
  refine ⟨by kernel_rfl, fun j t ht => ?_⟩
  rw [Tryz.params6] at ht
  obtain rfl | rfl | rfl : t = 31 ∨ t = 3 ∨ t = 9 := by simpa using Array.mem_of_getElem? ht
  · exact (show Tryz.prog.wantsStandIn 31 = false by kernel_rfl)
  · exact (show Tryz.prog.wantsStandIn 3 = false by kernel_rfl)
  · exact (show Tryz.prog.wantsStandIn 9 = false by kernel_rfl)

/-- The card. -/
theorem card : Rows.IndexTellsCardSaid :=
  Claim7.holds_tied_plain_at .later [] _ _ _ _ said (fun _ h => by cases h) (by kernel_rfl) (fun _ h => by cases h) indexTells_row_tie rfl ⟨rfl, rfl⟩ (by kernel_rfl) rfl plain (by kernel_rfl)
end Go.Proofs.YtcjalpegffldaaaGreatDoor.indexTells
