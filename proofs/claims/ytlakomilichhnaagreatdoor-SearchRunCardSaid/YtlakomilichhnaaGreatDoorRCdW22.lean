/- Parts. -/
import Derived.Test.YtlakomilichhnaaGreatDoorRows
import Derived.Lay
import Derived.Deep.DeepWitnessRowRef
import Derived.ProofKit
namespace Go.Proofs.YtlakomilichhnaaGreatDoor
set_option maxRecDepth 100000
open Go.RowKit
open Proofs.Tryz renaming prog->A8
theorem lay_fits (os:Os):(World.holding A8 os ⟨#[],#[],[]⟩).layFits A8 Rows.searchPageRow.laid []=true:=by kernel_rfl
theorem lay_ifaces (os:Os):(World.holding A8 os ⟨#[],#[],[]⟩).layIfaces A8 Rows.searchPageRow.laid (World.laidAll A8 os Rows.searchPageRow.laid)=true:=by kernel_rfl
theorem lay_heap (os:Os) (args:Array Value):(((World.laidAll A8 os Rows.searchPageRow.laid).forCall (fun _ _=>0) ⟨#[],args,[]⟩).heap.toList.drop A8.globals.size).take ((begin A8 (fun _ _=>0) default).world.heap.size - A8.globals.size) =
      (begin A8 (fun _ _=>0) default).world.heap.toList.drop A8.globals.size:=by kernel_rfl
theorem lay_vars (os:Os) (args:Array Value):((World.laidAll A8 os Rows.searchPageRow.laid).forCall (fun _ _=>0) ⟨#[],args,[]⟩).variablesRefB A8=true:=by kernel_rfl
theorem p_laid:laidOutB A8=true:=by kernel_rfl
theorem p_rowed:mapsRowed A8=true:=by kernel_rfl
theorem p_stops:(Tryz.prog.stops == [])=true:=by kernel_rfl
theorem p_knobs:(Tryz.prog.stopKnobs == [])=true:=by kernel_rfl
theorem p_heard:Tryz.prog.stopsHeard=true:=by kernel_rfl
theorem p_enter:Tryz.prog.mayEnter=true:=by kernel_rfl
theorem joined_of {P:Program}{f:FuncId}{fn:Func}{s:ChangeSpec}{c:OpenClaim} (h1:c.wf (OpenSpec.ofChange s)=true) (h2:laidOutB P=true) (h3:mapsRowed P=true) (h4:(fn.params.all (P.readableRec ·)&&namedTie P c.named s.vars)=true)
  (h5:(c.stops == [])=true) (h5b:(P.stops == [])=true) (h5c:(c.knobs == [])=true) (h5d:(P.stopKnobs == [])=true)
  (h6:(c.inPlace == P.inPlace f)=true) (h7:(c.unfollowed == P.unfollowed f)=true) (h8:(c.recurses == P.recurses f)=true) (h9:(c.named == P.varsNamed f)=true)
  (h10:((c.maps == (fn.params.toList++s.plain.varTypes P).any (P.mapsRec ·))&&(c.ifaces == (fn.params.toList++s.plain.varTypes P).any (P.ifacesRec ·))&&(c.mapsOut == P.mapsAmong fn.resultTypes.toList)&&(c.loops == (fn.params.toList++s.plain.varTypes P).any (P.loopsFrom ·))&&(c.wideKeys == (fn.params.toList++s.plain.varTypes P++fn.resultTypes.toList).any (P.wideKeysFrom ·)))=true)
  (h11:(s.vars.all (P.varReadable ·)&&fn.resultTypes.all (fun t=>P.readableRec t&&decide (t<P.types.size))&&(c.ifacesOut == fn.resultTypes.toList.any (P.ifacesRec ·))&&(c.loopsOut == fn.resultTypes.toList.any (P.loopsFrom ·))&&(c.plainKeys == P.plainKeys)&&c.shortTexts.isNone)=true)
  (h12:P.stopsHeard=true) (h12b:P.mayEnter=true) (h13:((c.lifted == P.liftsFinal)&&(P.make == some c.make)&&(c.kinds == (if c.domain.isEmpty then [] else fn.params.toList.map fun t=>match P.underlying t with | some (.int k)=>some k | _=>none))&&(c.pinned == c.pinnedBy))=true)
  (h14:((c.veiled == (fn.params.toList++s.plain.varTypes P++fn.resultTypes.toList).any (P.veiledRec ·))&&c.veiledFits P fn.params.toList (fn.params.toList++s.plain.varTypes P++fn.resultTypes.toList))=true):joinedFacts P f fn s c=true:=by
 simp only[Bool.and_eq_true]at h4 h10 h11 h13 h14;simp only[joinedFacts,h1,h2,h3,h4.1,h4.2,h5,h5b,h5c,h5d,h6,h7,h8,h9,h10.1.1.1.1,h10.1.1.1.2,h10.1.1.2,h10.1.2,h10.2,h11.1.1.1.1.1,h11.1.1.1.1.2,h11.1.1.1.2,h11.1.1.2,h11.1.2,h11.2,h12,h12b,h13.1.1.1,h13.1.1.2,h13.2,h14.1,h14.2,Bool.and_self,Bool.true_and,Bool.and_true];exact h13.1.2
end Go.Proofs.YtlakomilichhnaaGreatDoor
