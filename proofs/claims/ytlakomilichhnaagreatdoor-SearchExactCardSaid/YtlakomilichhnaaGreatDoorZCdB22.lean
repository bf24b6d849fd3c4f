/- Texts of this seat's, what the claim needs of them. -/
import Derived.Test.YtlakomilichhnaaGreatDoorZOr
import Derived.Test.YtlakomilichhnaaGreatDoorCards
import Derived.Test.YtlakomilichhnaaGreatDoorTie
import Derived.ProofKit
import Derived.OpenShut
import Derived.ShutString
import Derived.Lay
import Derived.PinnedBridge
import Derived.Lib.LaidU8T
import Derived.Deep.DeepWitnessRowRef
import Derived.Deep.Fields
import Derived.ChangeArms
namespace Go.Proofs.YtlakomilichhnaaGreatDoor
set_option maxRecDepth 100000
open Go.RowKit
open Go renaming TypeId→Bd,Value→Ah,World→A9
open Option renaming some→A2
open Option.some renaming inj→Ei
open Proofs.Tryz renaming prog→A3,underlying178→K9
section
open Go.ChangeShapes Go.WideShapes Go.ChangeAt Go.Deep
section
variable {H : Type} {enc : Bd × Ah → H} {P : Program}
theorem post_of_below {f:Func}{s:ChangeSpec}{apart fresh handsOn again:Bool}{W W':A9}{args:Array Ah}{v:Ah}{ds gs:List (DataW H)}{before pa pv:List MemPlace}
  (hW:DataW.Whole enc P f.params.toList s.vars apart W args.toList ds gs before)
  (hres:∀ (b:Nat) (sp:Nat→Bool) (hd:Bool),DataW.TrodAll enc P W' b sp hd f.resultTypes.toList (v.resultList f.resultTypes.size) (s.fn H (ds++gs)).results [])
  (hargs:∀ sp:Nat→Bool,(∀ p∈before,sp p.block=true)→DataW.TrodAll enc P W' 0 sp true f.params.toList args.toList (s.fn H (ds++gs)).args pa)
  (hvars:∀ sp:Nat→Bool,(∀ p∈before,sp p.block=true)→DataW.TrodVars enc P W' sp s.vars (s.fn H (ds++gs)).vars pv)
  (hps:before=pa++pv) (hb:Below W.heap.size W W')
  (hok:∀ (j:Nat) (t:Bd) (r:Ah),f.resultTypes[j]?=A2 t→(v.resultList f.resultTypes.size)[j]?=A2 r→Value.okWide P W' .any 0 t r) :
  s.post enc P f apart fresh handsOn again W args v W':=by
 have hlt:∀ p∈before,p.block<W.heap.size:=fun p hp=>hW.lt p hp
 have hold:∀ p∈before,(fun b=>decide (b<W.heap.size)) p.block=true:=fun p hp=>by simpa using hlt p hp
 refine⟨ds,gs,before,[],pa,pv,hW,hres _ _ _,hargs _ hold,hvars _ hold,World.keptBut_mono (fun p hp=>⟨hp,?_⟩) (hb.frame (·∈before)),fun _=>?_⟩
 ·rw[hps,List.mem_append]at hp
  exact Or.inr hp
 ·obtain⟨_,_,_,_,_,hz,hn⟩:=hW
  refine⟨hok,_,_,([]++pa)++pv,⟨[]++pa,pv,trodAll_append (hargs _ (fun _ _=>rfl)) (hres _ _ _),hvars _ (fun _ _=>rfl),rfl,?_,?_⟩,?_⟩
  ·intro b off hp
   have hin:MemPlace.cell b off∈before:=by rw[hps];simpa using hp
   rw[hb.frozen (hlt _ hin)]
   exact hz b off hin
  ·intro ha
   have:=hn ha
   rw[hps]at this
   simpa using this
  ·intro p hp _
   rw[hps]
   simpa using hp
theorem int_of_shape {w:A9}{g:Nat}{t:Bd}{k:IntKind}{zero:Array Ah} (h:w.ShapedOpen P) (hg:g<P.globals.size)
  (h0:((begin P (fun _ _=>0) default).world.heap[g]?).bind Obj.row?=A2 (zero,t)) (hz:zero.size=1)
  (hb:P.buildable t=true) (hc:P.cellTypes P.depth t=A2 [t]) (hu:P.underlying t=A2 (.int k)):∃ m,w.cell? ⟨g,0,none⟩=A2 (.int k m):=by
 obtain⟨cs,hh,hs,hr⟩:=h.1 g zero t hg h0
 obtain⟨ts,hts,_,hall⟩:=hr hb
 rw[hc]at hts
 cases hts
 have h1:0<cs.size:=by omega
 obtain⟨u,hu',hok⟩:=hall 0 cs[0] (by simp[h1])
 have:u=t:=by simpa using hu'.symm
 subst this
 have hcell:w.cell? ⟨g,0,none⟩=A2 cs[0]:=by simp[World.cell?,hh,h1]
 rw[hcell]
 unfold Cell.ok at hok
 rw[hu]at hok
 cases hv:cs[0] <;> rw[hv]at hok <;> first | (simp at hok;done) | skip
 obtain⟨e,_⟩:_∧_:=hok
 subst e
 exact⟨_,rfl⟩
theorem iface_of_reads {w:A9}{nm u:String}{y:DataW Unit}{g:Nat}{t:Bd}{ms:Array (String × Bd)} (h:Lib.VarReads P w nm (.iface u y)) (hg:P.globalNamed nm=A2 g) (hty:(P.globals[g]?).map (·.type)=A2 t) (hu:P.underlying t=A2 (.interface ms)) :
  ∃ te pe,w.cell? ⟨g,0,none⟩=A2 (.iface te pe):=by
 obtain⟨g',t',cs,fuel,p,h1,h2,h3,h4⟩:=h
 obtain rfl:=Ei (hg.symm.trans h1)
 obtain rfl:=Ei (hty.symm.trans h2)
 rw[World.var?_cell hg h3 0]
 cases fuel with
 | zero=>simp[DataW.trod]at h4
 | succ fuel =>
  unfold DataW.trod at h4
  rw[hu]at h4
  split at h4 <;> first | (exfalso;simp at h4;done) | skip
  all_goals (rename_i h5 h6;first | (exfalso;cases h5;done) | exact⟨_,_,by rw[← Array.getElem?_toList,h6];rfl⟩)
end
theorem u8x:U8Extra A3 Tryz.lays196_ren:=⟨by kernel_rfl,by kernel_rfl,by kernel_rfl,by kernel_rfl,by kernel_rfl,by kernel_rfl,by kernel_rfl⟩
theorem acc_eq:Lib.acceptData=Rows.laid_unicode_utf8_acceptRanges:=by kernel_rfl
theorem pow_eq:Lib.tabData .u64 Lib.pow10Tab=(Rows.laid_internal_strconv_uint64pow10:DataW Unit):=by kernel_rfl
theorem G_of {W:A9} (h0:laidMetH A3 Rows.searchPageRow.laid W) (hsh:W.ShapedOpen A3):G W:=by
 have h:laidMet A3 Rows.searchPageRow.laid W:=h0
 have hp : Lib.VarReads A3 W "internal/strconv.uint64pow10" (Lib.tabData .u64 Lib.pow10Tab) := by rw [pow_eq]; exact Lib.laidMet.reads h (.tail _ (.tail _ (.head _)))
 have ha : Lib.VarReads A3 W "unicode/utf8.acceptRanges" Lib.acceptData := by rw [acc_eq]; exact Lib.laidMet.reads h (.tail _ (.tail _ (.tail _ (.head _))))
 have hr : Lib.VarReads A3 W "strconv.ErrRange" Rows.laid_strconv_ErrRange := Lib.laidMet.reads h (.tail _ (.tail _ (.tail _ (.tail _ (.head _)))))
 have hs : Lib.VarReads A3 W "strconv.ErrSyntax" Rows.laid_strconv_ErrSyntax := Lib.laidMet.reads h (.tail _ (.tail _ (.tail _ (.tail _ (.tail _ (.head _))))))
 have hf : Lib.VarReads A3 W "unicode/utf8.first" Lib.firstData := by rw [← Pinned.utf8First_eq]; exact Lib.laidMet.reads h (.tail _ (.tail _ (.tail _ (.tail _ (.tail _ (.tail _ (.head _)))))))
 have hp10 : Lib.TabIs A3 W "internal/strconv.uint64pow10" .u64 Lib.pow10Tab := by
  obtain⟨g,t,cs,fuel,p,hg,hty,hvar,hd⟩:=hp
  obtain rfl := Ei ((show Tryz.prog.globalNamed "internal/strconv.uint64pow10" = A2 5 by kernel_rfl).symm.trans hg)
  obtain rfl:=Ei ((show (Tryz.prog.globals[5]?).map (·.type)=A2 296 by kernel_rfl).symm.trans hty)
  unfold Lib.TabIs
  rw[hvar,← Lib.cells_of_tab (show A3.underlying 296=A2 (.array 20 197) by kernel_rfl) (show A3.underlying 197=A2 (.int .u64) by kernel_rfl) (by kernel_rfl) (by kernel_rfl) hd]
 have hpc := hp10.cell (show Tryz.prog.globalNamed "internal/strconv.uint64pow10" = A2 5 by kernel_rfl) 0 (by decide)
 have hlo:5<W.heap.size:=by
  rcases Nat.lt_or_ge 5 W.heap.size with h1 | h1
  ·exact h1
  ·exfalso
   have h2:W.heap[5]?=none:=Array.getElem?_eq_none h1
   simp[World.cell?,h2]at hpc
 exact⟨utf8Tabs_of_readsT (U8Types.of196 Tryz.lays196) u8x hf ha,hp10,
  int_of_shape hsh (g:=0) (t:=3) (zero:=#[.int .i64 0]) (of_decide_eq_true (by kernel_rfl)) (by kernel_rfl) rfl (by kernel_rfl) (by kernel_rfl) Tryz.underlying3,
  iface_of_reads hs (g:=3) (t:=178) (by kernel_rfl) (by kernel_rfl) K9,
  iface_of_reads hr (g:=4) (t:=178) (by kernel_rfl) (by kernel_rfl) K9,hlo⟩
section
variable {H : Type} {enc : Bd × Ah → H} {P : Program} {W : A9} {base : Nat} {sp : Nat → Bool} {hd : Bool}
theorem wf_i64 {n:Int} (h:(Lit.int .i64 n).wf=true):-9223372036854775808≤n∧n≤9223372036854775807:=by
 unfold Lit.wf at h
 rw[Bool.and_eq_true,decide_eq_true_iff,decide_eq_true_iff]at h
 exact h
theorem one_i64 {fuel:Nat}{t:Bd}{cs:List Ah}{x:DataW H × List MemPlace} (hu:P.underlying t=A2 (.int .i64)) (h:DataW.trod enc P W base sp hd fuel t cs=A2 x):∃ n:Int,cs=[.int .i64 n]∧-9223372036854775808≤n∧n≤9223372036854775807:=by
 obtain⟨n,e,_,hw⟩:=DataW.trod_int hu h
 exact⟨n,e,wf_i64 hw⟩
end
section
variable {H : Type} {enc : Bd × Ah → H} {W : A9} {base : Nat} {sp : Nat → Bool} {hd : Bool}
instance:Inhabited Qr.Qy:=⟨.mk 0 0 [] 0 0 []⟩
end
end
end Go.Proofs.YtlakomilichhnaaGreatDoor
