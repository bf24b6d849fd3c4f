/- Texts of this seat's, what the claim needs of them. -/
import Derived.Test.YtlakomilichhnaaGreatDoorYXPb
import Derived.Test.YtlakomilichhnaaGreatDoorZPc
import Derived.Test.YtlakomilichhnaaGreatDoorYXPd
import Derived.Laws.EntriesVeiled
import Derived.Test.YtlakomilichhnaaGreatDoorYXPf
import Derived.Test.YtlakomilichhnaaGreatDoorZLawSrA
namespace Go.Proofs.YtlakomilichhnaaGreatDoor
set_option maxHeartbeats 3200000
set_option maxRecDepth 100000
open Go.RowKit
open Go renaming Addr→Ao,Calls→Ac,Value→Ah,World→A9,callFunc→E5,cell_later→A0
open Instr renaming makeFunc→Cl
open Ix renaming terms→Cw,terms_len→FB
open Lib renaming hasPrefix→C7,hid→J
open List renaming any_eq_true→BM,getElem?_eq_getElem→A7,getElem_mem→Gn,getElem_ofFn→Mz,length→Cd,length_eq_one_iff→E2,length_map→At,mem_cons_of_mem→Bw,mem_cons_self→AY
open Nat renaming add_zero→Bs,zero_mul→Ew
open Option renaming none→A4,some→A2
open Proofs.Tryz renaming func25→Fi,ntmps25→EX,prog→A3
open Rc renaming FldA→AV,Rd→BF
open RowKit renaming Below→A6
open RowKit.Below renaming refl→Ab
open Sr renaming Rg→FH,matchB→BD
open Sr.RQ renaming new→Et
open Tx renaming step→A8
namespace Qr
end Qr
namespace Rc
end Rc
namespace Sr
open Rc hiding bys
open Qr
theorem own_xs {w:A9}{B:Nat}{v:Ah}{l:List Ix.By} (h:Ix.OwnT w B v l):∃ (xs:List ByteArray) (a:Option Ao) (c:Nat),xs.map (·.data.toList)=l∧v=.slice a xs.length c∧SLA w a c xs:=by
 obtain⟨a,c,e,hs⟩:=Ix.own_sla h
 refine⟨_,a,c,?_,by rw[e,At],hs⟩
 rw[List.map_map]
 conv=>rhs;rw[← List.map_id l]
 rfl
theorem match4 (fs:List Fl) (a b:Int):matchB fs (.mk 4 0 [] a b [])=yrB (year fs) a b:=rfl
theorem match5 (fs:List Fl) (ks:List Qy):matchB fs (.mk 5 0 [] 0 0 ks)=ks.all (matchB fs):=by unfold matchB;rw[ev,if_pos rfl,evAll_eq]
theorem match6 (fs:List Fl) (ks:List Qy):matchB fs (.mk 6 0 [] 0 0 ks)=ks.any (matchB fs):=by unfold matchB;rw[ev,if_neg (by decide),if_pos rfl,evAny_eq]
theorem match7 (fs:List Fl) (x y:Qy):matchB fs (.mk 7 0 [] 0 0 [x,y])=(matchB fs x&&!matchB fs y):=by
 unfold matchB
 rw[ev,if_neg (by decide),if_neg (by decide),if_pos rfl,evNot,evAny,evAny,Bool.or_false]
theorem match2 (fs:List Fl) (f:Int) (y:ByteArray):matchB fs (.mk 2 f [y] 0 0 [])=(Cw fs f).any fun t=>C7 t y.data.toList:=by
 unfold matchB
 rw[ev,if_neg (by decide),if_neg (by decide),if_neg (by decide)]
 rfl
theorem match1 (fs:List Fl) (f:Int) (ws:List ByteArray):matchB fs (.mk 1 f ws 0 0 [])=stands (Cw fs f) (ws.map (·.data.toList)):=by
 unfold matchB
 rw[ev,if_neg (by decide),if_neg (by decide),if_neg (by decide)]
 rfl
theorem match3 (fs:List Fl) (f:Int) (ws:List ByteArray):matchB fs (.mk 3 f ws 0 0 [])=stands (Cw fs f) (ws.map (·.data.toList)):=by
 unfold matchB
 rw[ev,if_neg (by decide),if_neg (by decide),if_neg (by decide)]
 rfl
open Rc hiding bys
open Qr
def MP (r:Rd) (fa:Option Ao) (fc B:Nat) (q:Qy):Prop:=∀ (cs:List Ah) (w:A9),QC B w q cs→AV w fa fc r.fields→G w →
  Ac A3 25 #[.agg #[.int .i64 r.id,.int .i64 r.ver,.int .i64 r.kind,.string r.lang,.slice fa r.fields.length fc],.agg cs.toArray] w fun e w'=>e=.returned (.bool (matchB r.fields q))∧A6 w.heap.size w w'
structure CapR (w:A9) (Y:Nat) (r:Rd) (fa:Option Ao) (fc:Nat):Prop where
 c0:w.cell? ⟨Y,0,A4⟩=A2 (.int .i64 r.id)
 c1:w.cell? ⟨Y,1,A4⟩=A2 (.int .i64 r.ver)
 c2:w.cell? ⟨Y,2,A4⟩=A2 (.int .i64 r.kind)
 c3:w.cell? ⟨Y,3,A4⟩=A2 (.string r.lang)
 c4:w.cell? ⟨Y,4,A4⟩=A2 (.slice fa r.fields.length fc)
theorem CapR.below {w w':A9}{Y:Nat}{r:Rd}{fa:Option Ao}{fc:Nat} (h:CapR w Y r fa fc) (hb:A6 w.heap.size w w'):CapR w' Y r fa fc :=
 ⟨A0 hb h.c0,A0 hb h.c1,A0 hb h.c2,A0 hb h.c3,A0 hb h.c4⟩
structure CapW (w:A9) (Y:Nat) (y:ByteArray):Prop where
 ex:∃ (b o c:Nat),w.cell? ⟨Y,2,A4⟩=A2 (.slice (A2 ⟨b,o,A4⟩) 1 c)∧w.cell? ⟨b,o,A4⟩=A2 (.string y)∧b<w.heap.size
theorem CapW.below {w w':A9}{Y:Nat}{y:ByteArray} (h:CapW w Y y) (hb:A6 w.heap.size w w'):CapW w' Y y:=by
 obtain⟨b,o,c,h1,h2,h3⟩:=h.ex
 exact⟨b,o,c,A0 hb h1,A0 hb h2,Nat.lt_of_lt_of_le h3 hb.size⟩
end Sr
theorem sr_m1_enters:∀ args w,(E5 59 args).run A3 w=.ok (.enter 59 args) w:=enters_of Tryz.func59 (by kernel_rfl) rfl
theorem sr_m2_enters:∀ args w,(E5 60 args).run A3 w=.ok (.enter 60 args) w:=enters_of Tryz.func60 (by kernel_rfl) rfl
theorem sr_m3_enters:∀ args w,(E5 64 args).run A3 w=.ok (.enter 64 args) w:=enters_of Tryz.func64 (by kernel_rfl) rfl
theorem sr_m1_c (r:BF) (fa:Option Ao) (fc B Y:Nat) (q:Qr.Qy) (hM:Sr.MP r fa fc B q) (cs:List Ah) (w:A9) (hq:Qr.QC B w q cs) (hC:Sr.CapR w Y r fa fc) (hF:AV w fa fc r.fields) (hG:G w) :
  Ac A3 59 #[.agg cs.toArray,.pointer (A2 ⟨Y,0,A4⟩)] w fun e w'=>e=.returned (.bool (BD r.fields q))∧A6 w.heap.size w w':=by
 obtain⟨sa,sc,ka,kc,rfl,_,_,_⟩:=hq.kids
 obtain⟨W,hW⟩:∃ W,w.alloc (.cells #[.int .i64 q.op,.int .i64 q.fld,.slice sa q.ws.length sc,.int .i64 q.a,.int .i64 q.b,.slice ka q.ks.length kc] 29)=W:=⟨_,rfl⟩
 have hB:A6 w.heap.size w W:=by rw[← hW];exact Tx.newb _ _
 have d0:W.cell? ⟨w.heap.size,0,A4⟩=A2 (.int .i64 q.op):=by rw[← hW];simp
 have d1:W.cell? ⟨w.heap.size,1,A4⟩=A2 (.int .i64 q.fld):=by rw[← hW];simp
 have d2:W.cell? ⟨w.heap.size,2,A4⟩=A2 (.slice sa q.ws.length sc):=by rw[← hW];simp
 have d3:W.cell? ⟨w.heap.size,3,A4⟩=A2 (.int .i64 q.a):=by rw[← hW];simp
 have d4:W.cell? ⟨w.heap.size,4,A4⟩=A2 (.int .i64 q.b):=by rw[← hW];simp
 have d5:W.cell? ⟨w.heap.size,5,A4⟩=A2 (.slice ka q.ks.length kc):=by rw[← hW];simp
 obtain⟨c0,c1,c2,c3,c4⟩:=hC.below hB
 have HC:=J (hM _ W (hq.later hB) (hF.below hB) (hG.below hB))
 clear hM hq hC hF hG
 go_enter Tryz.func59,Tryz.ntmps59
 go_wp2_with (go_at_call 25;((with_reducible refine HC.out.mono ?_);rintro e w1 ⟨rfl,hb1⟩))
 go_ret
 exact⟨rfl,A8 hB hb1⟩
theorem sr_m2_c (r:BF) (fa:Option Ao) (fc B Y:Nat) (q:Qr.Qy) (hM:Sr.MP r fa fc B q) (cs:List Ah) (w:A9) (hq:Qr.QC B w q cs) (hC:Sr.CapR w Y r fa fc) (hF:AV w fa fc r.fields) (hG:G w) :
  Ac A3 60 #[.agg cs.toArray,.pointer (A2 ⟨Y,0,A4⟩)] w fun e w'=>e=.returned (.bool (!Sr.matchB r.fields q))∧A6 w.heap.size w w':=by
 obtain⟨sa,sc,ka,kc,rfl,_,_,_⟩:=hq.kids
 obtain⟨W,hW⟩:∃ W,w.alloc (.cells #[.int .i64 q.op,.int .i64 q.fld,.slice sa q.ws.length sc,.int .i64 q.a,.int .i64 q.b,.slice ka q.ks.length kc] 29)=W:=⟨_,rfl⟩
 have hB:A6 w.heap.size w W:=by rw[← hW];exact Tx.newb _ _
 have d0:W.cell? ⟨w.heap.size,0,A4⟩=A2 (.int .i64 q.op):=by rw[← hW];simp
 have d1:W.cell? ⟨w.heap.size,1,A4⟩=A2 (.int .i64 q.fld):=by rw[← hW];simp
 have d2:W.cell? ⟨w.heap.size,2,A4⟩=A2 (.slice sa q.ws.length sc):=by rw[← hW];simp
 have d3:W.cell? ⟨w.heap.size,3,A4⟩=A2 (.int .i64 q.a):=by rw[← hW];simp
 have d4:W.cell? ⟨w.heap.size,4,A4⟩=A2 (.int .i64 q.b):=by rw[← hW];simp
 have d5:W.cell? ⟨w.heap.size,5,A4⟩=A2 (.slice ka q.ks.length kc):=by rw[← hW];simp
 obtain⟨c0,c1,c2,c3,c4⟩:=hC.below hB
 have HC:=J (hM _ W (hq.later hB) (hF.below hB) (hG.below hB))
 clear hM hq hC hF hG
 go_enter Tryz.func60,Tryz.ntmps60
 go_wp2_with (go_at_call 25;((with_reducible refine HC.out.mono ?_);rintro e w1 ⟨rfl,hb1⟩))
 go_ret
 exact⟨rfl,A8 hB hb1⟩
theorem sr_m3_c (x y:ByteArray) (Y:Nat) (w:A9) (hC:Sr.CapW w Y y) :
  Ac A3 64 #[.string x,.pointer (A2 ⟨Y,0,A4⟩)] w fun e w'=>e=.returned (.bool (C7 x.data.toList y.data.toList))∧A6 w.heap.size w w':=by
 obtain⟨b,o,c,c2,c3,hbl⟩:=hC.ex
 have HC:Hid (∀ w',Ac A3 65 #[.string x,.string y] w' fun e w''=>e=.returned (.bool (C7 x.data.toList y.data.toList))∧w'=w''):=J (fun w'=>(Tryz.strings_HasPrefix x y w').mono fun _ _ ⟨h8,h9⟩=>⟨h8,by first | exact h9 | exact h9.symm⟩)
 go_enter Tryz.func64,Tryz.ntmps64
 go_wp2_with (go_at_call 65;((with_reducible refine (HC.out _).mono ?_);rintro e w1 ⟨rfl,rfl⟩))
 go_ret
 exact⟨rfl,Ab _ _⟩
theorem contQ_c (g:Nat) (lb:Array Ah) (eg:∀ args w,(E5 g args).run A3 w=.ok (.enter g args) w) (B:Nat) (p:Qr.Qy→Bool) (ks:List Qr.Qy) (ka:Option Ao) (kc:Nat) (w:A9) (hK:Qr.KA B w ka kc ks) (hne:ks≠[])
  (hp:∀ k∈ks,∀ cs W,A6 w.heap.size w W→Qr.QC B w k cs→Ac A3 g (#[.agg cs.toArray]++lb) W fun e w'=>e=.returned (.bool (p k))∧A6 w.heap.size w w') :
  Ac A3 68 #[.slice ka ks.length kc,.func (.func g) #[] lb] w fun e w'=>e=.returned (.bool (ks.any p))∧A6 w.heap.size w w':=by
 have hml:maxLen=9223372036854775807:=rfl
 have hmax:=hK.max
 obtain⟨css,hl,hq,hf,_⟩:=hK.ex
 obtain⟨b,o,h1,_⟩:=hf.at_
 have hce:css≠[]:=fun e=>hne (List.eq_nil_of_length_eq_zero (by rw[← hl,e];rfl))
 obtain⟨rfl,hb⟩:=h1 hce
 have hpos:0<ks.length:=List.length_pos_iff.2 hne
 let α:={ t:Qr.Qy × List Ah // t.1∈ks∧Qr.QC B w t.1 t.2 }
 let zs:List α:=List.ofFn fun j:Fin ks.length=>⟨(ks[j.val],css[j.val]'(by rw[hl];exact j.isLt)),Gn _,hq j.val _ _ (A7 _) (A7 _)⟩
 have hzl:zs.length=ks.length:=List.length_ofFn
 haveI:Inhabited α:=⟨zs[0]'(by rw[hzl];exact hpos)⟩
 have hx:=AnyQ.slices_ContainsFunc Tryz.contQry 6 Tryz.isAgg29 Tryz.sizeOf29 (fun t:α=>t.1.2) (fun t=>t.2.2.len) (fun t=>p t.1.1) g lb eg b o ks.length kc zs w (fun W x hW=>hp x.1.1 x.2.1 x.1.2 W hW x.2.2) (by rw[hzl];exact Nat.le_refl _) (by omega) hb (fun j hj i v hv=>by
  rw[hzl]at hj
  have e:zs[j]! = zs[j]'(by rw[hzl];exact hj):=getElem!_pos _ _ _
  have e2:(zs[j]'(by rw[hzl];exact hj)).1.2=css[j]'(by rw[hl];exact hj):=by simp only[zs,Mz]
  rw[e,e2]at hv
  obtain⟨b',o',e1,_,e3⟩:=hf.get (k:=j) (A7 (by rw[hl];exact hj))
  injection e1 with e1
  injection e1 with e1 e4
  subst e1 e4
  exact e3 i v hv)
 have ea:(zs.take ks.length).any (fun t=>p t.1.1)=ks.any p:=by
  rw[← hzl,List.take_length,Bool.eq_iff_iff,BM,BM]
  constructor
  ·rintro⟨t,_,h9⟩
   exact⟨t.1.1,t.2.1,h9⟩
  ·rintro⟨k,hk,h9⟩
   obtain⟨j,hj,e⟩:=List.getElem_of_mem hk
   refine⟨zs[j]'(by rw[hzl];exact hj),Gn _,?_⟩
   simp only[zs,Mz]
   rw[e]
   exact h9
 rw[ea]at hx
 exact hx
theorem sr_Match_4 (r:BF) (fa:Option Ao) (fc:Nat) (ya yb:Int) (sa:Option Ao) (sc:Nat) (ka:Option Ao) (kc:Nat) (w:A9) (h:AV w fa fc r.fields) (hR:FH r) :
  Ac A3 25 #[.agg #[.int .i64 r.id,.int .i64 r.ver,.int .i64 r.kind,.string r.lang,.slice fa r.fields.length fc],.agg #[.int .i64 4,.int .i64 0,.slice sa 0 sc,.int .i64 ya,.int .i64 yb,.slice ka 0 kc]] w fun e w'=>e=.returned (.bool (BD r.fields (.mk 4 0 [] ya yb [])))∧A6 w.heap.size w w':=by
 have hmf:∀ (fn:Fn) (first cap:Array Ah) (w:A9),(Cl fn first cap).run A3 w=.ok (.func fn first cap) w:=fun _ _ _ _=>rfl
 obtain⟨b,hb⟩:∃ b,BD r.fields (.mk 4 0 [] ya yb [])=b:=⟨_,rfl⟩
 rw[hb]
 obtain⟨W,hW⟩:∃ W,(w.alloc (.cells #[.int .i64 r.id,.int .i64 r.ver,.int .i64 r.kind,.string r.lang,.slice fa r.fields.length fc] 51)).alloc (.cells #[.int .i64 4,.int .i64 0,.slice sa 0 sc,.int .i64 ya,.int .i64 yb,.slice ka 0 kc] 29)=W:=⟨_,rfl⟩
 have hRQ:=Et w r.id r.ver r.kind r.lang (.slice fa r.fields.length fc) (.int .i64 4) (.int .i64 0) (.slice sa 0 sc) (.int .i64 ya) (.int .i64 yb) (.slice ka 0 kc) 51 29
 rw[hW]at hRQ
 obtain⟨hB,c0,c1,c2,c3,c4,d0,d1,d2,d3,d4,d5⟩:=hRQ
 have hFW:=h.below hB
 have YC:=search_years_c r.fields fa fc r.id r.ver r.kind r.lang 4 0 ya yb (.slice sa 0 sc) (.slice ka 0 kc) W hFW hR.gd
 rw[← Sr.match4,hb]at YC
 have HY:=J YC
 clear YC hb hFW h hR
 go_enter Fi,EX
 go_wp2_with (go_at_call 67;((with_reducible refine HY.out.mono ?_);rintro e w1 ⟨rfl,hb1⟩))
 go_ret
 exact⟨rfl,A8 hB hb1⟩
theorem sr_Match_1 (r:BF) (fa:Option Ao) (fc:Nat) (f:Int) (y:ByteArray) (sa:Option Ao) (sc:Nat) (ka:Option Ao) (kc:Nat) (w:A9) (h:AV w fa fc r.fields) (hR:FH r) (hG:G w) (hw:SLA w sa sc [y]) :
  Ac A3 25 #[.agg #[.int .i64 r.id,.int .i64 r.ver,.int .i64 r.kind,.string r.lang,.slice fa r.fields.length fc],.agg #[.int .i64 1,.int .i64 f,.slice sa 1 sc,.int .i64 0,.int .i64 0,.slice ka 0 kc]] w fun e w'=>e=.returned (.bool (BD r.fields (.mk 1 f [y] 0 0 [])))∧A6 w.heap.size w w':=by
 have hmf:∀ (fn:Fn) (first cap:Array Ah) (w:A9),(Cl fn first cap).run A3 w=.ok (.func fn first cap) w:=fun _ _ _ _=>rfl
 obtain⟨b,hb⟩:∃ b,BD r.fields (.mk 1 f [y] 0 0 [])=b:=⟨_,rfl⟩
 rw[hb]
 obtain⟨W,hW⟩:∃ W,(w.alloc (.cells #[.int .i64 r.id,.int .i64 r.ver,.int .i64 r.kind,.string r.lang,.slice fa r.fields.length fc] 51)).alloc (.cells #[.int .i64 1,.int .i64 f,.slice sa 1 sc,.int .i64 0,.int .i64 0,.slice ka 0 kc] 29)=W:=⟨_,rfl⟩
 have hRQ:=Et w r.id r.ver r.kind r.lang (.slice fa r.fields.length fc) (.int .i64 1) (.int .i64 f) (.slice sa 1 sc) (.int .i64 0) (.int .i64 0) (.slice ka 0 kc) 51 29
 rw[hW]at hRQ
 obtain⟨hB,c0,c1,c2,c3,c4,d0,d1,d2,d3,d4,d5⟩:=hRQ
 have hFW:=h.below hB
 rw[Sr.match1]at hb
 have TC:∀ W',A6 W.heap.size W W'→_:=fun W' h9=>ix_Terms_c r.fields fa fc r.id r.ver r.kind r.lang f W' ((hG.below hB).below h9) (hFW.below h9) hR.mod hR.gd
 have hTl:=FB hR.mod f
 have hwW:=hw.below hB
 obtain⟨T,hT⟩:∃ T,Cw r.fields f=T:=⟨_,rfl⟩
 rw[hT]at hb TC hTl
 have HTC:=J TC
 have HM:=J hb
 have HWW:=J hwW
 have HTL:=J hTl
 clear TC hb hFW h hR hw hwW hT hTl hG
 obtain⟨b2,o2,rfl,hb2,y0⟩:=HWW.out.get (k:=0) (x:=y) rfl
 rw[Bs]at y0
 go_enter Fi,EX
 go_wp2
 clear hW
 go_region_held3 (fun w'=>A6 W.heap.size W w'∧w'.cell? ⟨w.heap.size,0,A4⟩=A2 (.int .i64 r.id)∧w'.cell? ⟨w.heap.size,1,A4⟩=A2 (.int .i64 r.ver)∧w'.cell? ⟨w.heap.size,2,A4⟩=A2 (.int .i64 r.kind)∧w'.cell? ⟨w.heap.size,3,A4⟩=A2 (.string r.lang)∧w'.cell? ⟨w.heap.size,4,A4⟩=A2 (.slice fa r.fields.length fc)∧w'.cell? ⟨w.heap.size+1,0,A4⟩=A2 (.int .i64 1)∧w'.cell? ⟨w.heap.size+1,1,A4⟩=A2 (.int .i64 f)∧w'.cell? ⟨w.heap.size+1,2,A4⟩=A2 (.slice (A2 ⟨b2,o2,A4⟩) 1 sc)∧w'.cell? ⟨w.heap.size+1,3,A4⟩=A2 (.int .i64 0)∧w'.cell? ⟨w.heap.size+1,4,A4⟩=A2 (.int .i64 0)∧w'.cell? ⟨w.heap.size+1,5,A4⟩=A2 (.slice ka 0 kc)∧w'.cell? ⟨b2,o2,A4⟩=A2 (.string y))
  (first | exact⟨(Ab _ _).drew,c0,c1,c2,c3,c4,d0,d1,d2,d3,d4,d5,y0⟩ | (go_split_ands;exact⟨A8 ‹_› hbx,by repeat' first | exact A0 hbx ‹_› | constructor⟩) | (go_split_ands;exact⟨by assumption,by assumption,by assumption,by assumption,by assumption,by assumption,by assumption,by assumption,by assumption,by assumption,by assumption,by assumption,by assumption⟩))
  (first
   |(go_split_ands;go_at_call 62;((with_reducible refine (HTC.out _ (by first | exact Ab _ _ | assumption)).mono ?_);rintro e wx ⟨v,rfl,ho,hbx⟩;obtain⟨xs,xa,xc,hxe,rfl,hS⟩:=Sr.own_xs ho;have HXS:=J hS;have HXE:=J hxe;have HXL:Hid (xs.length≤100000000):=J (by have:=congrArg Cd hxe;have h2:=HTL.out;rw[At]at this;omega);clear hS hxe ho))
   |(go_split_ands;go_at_call 61;have CN:=containsS_c xs _ _ y _ HXS.out;rw[show decide (y.data.toList∈xs.map (·.data.toList))=b from (by rw[HXE.out,← HM.out];exact Sr.stands_one.symm)]at CN;((with_reducible refine CN.mono ?_);rintro e wx ⟨rfl,rfl⟩)))
 go_split_ands
 go_wp2
 go_ret
 exact⟨rfl,A8 hB ‹_›⟩
theorem sr_Match_2 (r:BF) (fa:Option Ao) (fc:Nat) (f:Int) (y:ByteArray) (sa:Option Ao) (sc:Nat) (ka:Option Ao) (kc:Nat) (w:A9) (h:AV w fa fc r.fields) (hR:FH r) (hG:G w) (hw:SLA w sa sc [y]) :
  Ac A3 25 #[.agg #[.int .i64 r.id,.int .i64 r.ver,.int .i64 r.kind,.string r.lang,.slice fa r.fields.length fc],.agg #[.int .i64 2,.int .i64 f,.slice sa 1 sc,.int .i64 0,.int .i64 0,.slice ka 0 kc]] w fun e w'=>e=.returned (.bool (BD r.fields (.mk 2 f [y] 0 0 [])))∧A6 w.heap.size w w':=by
 have hmf:∀ (fn:Fn) (first cap:Array Ah) (w:A9),(Cl fn first cap).run A3 w=.ok (.func fn first cap) w:=fun _ _ _ _=>rfl
 obtain⟨b,hb⟩:∃ b,BD r.fields (.mk 2 f [y] 0 0 [])=b:=⟨_,rfl⟩
 rw[hb]
 obtain⟨W,hW⟩:∃ W,(w.alloc (.cells #[.int .i64 r.id,.int .i64 r.ver,.int .i64 r.kind,.string r.lang,.slice fa r.fields.length fc] 51)).alloc (.cells #[.int .i64 2,.int .i64 f,.slice sa 1 sc,.int .i64 0,.int .i64 0,.slice ka 0 kc] 29)=W:=⟨_,rfl⟩
 have hRQ:=Et w r.id r.ver r.kind r.lang (.slice fa r.fields.length fc) (.int .i64 2) (.int .i64 f) (.slice sa 1 sc) (.int .i64 0) (.int .i64 0) (.slice ka 0 kc) 51 29
 rw[hW]at hRQ
 obtain⟨hB,c0,c1,c2,c3,c4,d0,d1,d2,d3,d4,d5⟩:=hRQ
 have hFW:=h.below hB
 rw[Sr.match2]at hb
 have TC:∀ W',A6 W.heap.size W W'→_:=fun W' h9=>ix_Terms_c r.fields fa fc r.id r.ver r.kind r.lang f W' ((hG.below hB).below h9) (hFW.below h9) hR.mod hR.gd
 have hTl:=FB hR.mod f
 have hwW:=hw.below hB
 obtain⟨T,hT⟩:∃ T,Cw r.fields f=T:=⟨_,rfl⟩
 rw[hT]at hb TC hTl
 have HTC:=J TC
 have HM:=J hb
 have HWW:=J hwW
 have HTL:=J hTl
 clear TC hb hFW h hR hw hwW hT hTl hG
 obtain⟨b2,o2,rfl,hb2,y0⟩:=HWW.out.get (k:=0) (x:=y) rfl
 rw[Bs]at y0
 have hCW:Sr.CapW W (w.heap.size+1) y:=⟨b2,o2,sc,d2,y0,hb2⟩
 have HCW:=J hCW
 clear hCW
 go_enter Fi,EX
 go_wp2_with (first
  |(go_at_call 62;((with_reducible refine (HTC.out _ (by first | exact Ab _ _ | assumption)).mono ?_);rintro e wx ⟨v,rfl,ho,hbx⟩;obtain⟨xs,xa,xc,hxe,rfl,hS⟩:=Sr.own_xs ho;have HXS:=J hS;have HXE:=J hxe;have HXL:Hid (xs.length≤100000000):=J (by have:=congrArg Cd hxe;have h2:=HTL.out;rw[At]at this;omega);clear hS hxe ho);have CF:=J (sr_cont_c 64 #[.pointer (A2 ⟨w.heap.size+1,0,A4⟩)] sr_m3_enters (fun x=>C7 x.data.toList y.data.toList) xs xa xc wx HXS.out (fun x _ w' hb'=>(sr_m3_c x y _ w' ((HCW.out.below hbx).below hb')).mono fun _ _ ⟨h8,h9⟩=>⟨h8,A8 hb' h9⟩));have HX9:=J hbx;clear hbx)
  |(go_at_call 63;((with_reducible refine CF.out.mono ?_);rintro e w2 ⟨rfl,hb2'⟩)))
 go_ret
 refine⟨?_,A8 hB (A8 HX9.out hb2')⟩
 rw[← HM.out,← HXE.out,List.any_map]
 rfl
theorem sr_Match_3 (r:BF) (fa:Option Ao) (fc:Nat) (f:Int) (ws:List ByteArray) (sa:Option Ao) (sc:Nat) (ka:Option Ao) (kc:Nat) (w:A9) (h:AV w fa fc r.fields) (hR:FH r) (hG:G w) (hw:SLA w sa sc ws) (hw0:ws≠[]) (hn:ws.length≤1000000) :
  Ac A3 25 #[.agg #[.int .i64 r.id,.int .i64 r.ver,.int .i64 r.kind,.string r.lang,.slice fa r.fields.length fc],.agg #[.int .i64 3,.int .i64 f,.slice sa ws.length sc,.int .i64 0,.int .i64 0,.slice ka 0 kc]] w fun e w'=>e=.returned (.bool (BD r.fields (.mk 3 f ws 0 0 [])))∧A6 w.heap.size w w':=by
 have hmf:∀ (fn:Fn) (first cap:Array Ah) (w:A9),(Cl fn first cap).run A3 w=.ok (.func fn first cap) w:=fun _ _ _ _=>rfl
 obtain⟨b,hb⟩:∃ b,BD r.fields (.mk 3 f ws 0 0 [])=b:=⟨_,rfl⟩
 rw[hb]
 obtain⟨W,hW⟩:∃ W,(w.alloc (.cells #[.int .i64 r.id,.int .i64 r.ver,.int .i64 r.kind,.string r.lang,.slice fa r.fields.length fc] 51)).alloc (.cells #[.int .i64 3,.int .i64 f,.slice sa ws.length sc,.int .i64 0,.int .i64 0,.slice ka 0 kc] 29)=W:=⟨_,rfl⟩
 have hRQ:=Et w r.id r.ver r.kind r.lang (.slice fa r.fields.length fc) (.int .i64 3) (.int .i64 f) (.slice sa ws.length sc) (.int .i64 0) (.int .i64 0) (.slice ka 0 kc) 51 29
 rw[hW]at hRQ
 obtain⟨hB,c0,c1,c2,c3,c4,d0,d1,d2,d3,d4,d5⟩:=hRQ
 have hFW:=h.below hB
 rw[Sr.match3]at hb
 have TC:∀ W',A6 W.heap.size W W'→_:=fun W' h9=>ix_Terms_c r.fields fa fc r.id r.ver r.kind r.lang f W' ((hG.below hB).below h9) (hFW.below h9) hR.mod hR.gd
 have hTl:=FB hR.mod f
 have hwW:=hw.below hB
 obtain⟨T,hT⟩:∃ T,Cw r.fields f=T:=⟨_,rfl⟩
 rw[hT]at hb TC hTl
 have HTC:=J TC
 have HM:=J hb
 have HWW:=J hwW
 have HTL:=J hTl
 clear TC hb hFW h hR hw hwW hT hTl hG
 go_enter Fi,EX
 go_wp2
 clear hW
 go_region_held3 (fun w'=>A6 W.heap.size W w'∧w'.cell? ⟨w.heap.size,0,A4⟩=A2 (.int .i64 r.id)∧w'.cell? ⟨w.heap.size,1,A4⟩=A2 (.int .i64 r.ver)∧w'.cell? ⟨w.heap.size,2,A4⟩=A2 (.int .i64 r.kind)∧w'.cell? ⟨w.heap.size,3,A4⟩=A2 (.string r.lang)∧w'.cell? ⟨w.heap.size,4,A4⟩=A2 (.slice fa r.fields.length fc)∧w'.cell? ⟨w.heap.size+1,0,A4⟩=A2 (.int .i64 3)∧w'.cell? ⟨w.heap.size+1,1,A4⟩=A2 (.int .i64 f)∧w'.cell? ⟨w.heap.size+1,2,A4⟩=A2 (.slice sa ws.length sc)∧w'.cell? ⟨w.heap.size+1,3,A4⟩=A2 (.int .i64 0)∧w'.cell? ⟨w.heap.size+1,4,A4⟩=A2 (.int .i64 0)∧w'.cell? ⟨w.heap.size+1,5,A4⟩=A2 (.slice ka 0 kc))
  (first | exact⟨(Ab _ _).drew,c0,c1,c2,c3,c4,d0,d1,d2,d3,d4,d5⟩ | (go_split_ands;exact⟨A8 ‹_› hbx,by repeat' first | exact A0 hbx ‹_› | constructor⟩) | (go_split_ands;exact⟨by assumption,by assumption,by assumption,by assumption,by assumption,by assumption,by assumption,by assumption,by assumption,by assumption,by assumption,by assumption⟩))
  (first
   |(go_split_ands;go_at_call 62;((with_reducible refine (HTC.out _ (by first | exact Ab _ _ | assumption)).mono ?_);rintro e wx ⟨v,rfl,ho,hbx⟩;obtain⟨xs,xa,xc,hxe,rfl,hS⟩:=Sr.own_xs ho;have HXS:=J hS;have HXE:=J hxe;have HXL:Hid (xs.length≤100000000):=J (by have:=congrArg Cd hxe;have h2:=HTL.out;rw[At]at this;omega);clear hS hxe ho))
   |(go_split_ands;go_at_call 66;((with_reducible refine (search_stands_c xs ws _ _ _ _ _ HXS.out (HWW.out.below ‹_›) hw0 (by have:=HXL.out;omega) (by omega)).mono ?_);rintro e wx ⟨rfl,hbx⟩)))
 go_split_ands
 go_wp2
 go_ret
 exact⟨Tx.retb (by rw[HXE.out];exact HM.out),A8 hB ‹_›⟩
theorem sr_Match_5 (r:BF) (fa:Option Ao) (fc:Nat) (B:Nat) (ks:List Qr.Qy) (sa:Option Ao) (sc:Nat) (ka:Option Ao) (kc:Nat) (w:A9) (h:AV w fa fc r.fields) (hG:G w) (hK:Qr.KA B w ka kc ks) (hne:ks≠[]) (IH:∀ k∈ks,Sr.MP r fa fc B k) :
  Ac A3 25 #[.agg #[.int .i64 r.id,.int .i64 r.ver,.int .i64 r.kind,.string r.lang,.slice fa r.fields.length fc],.agg #[.int .i64 5,.int .i64 0,.slice sa 0 sc,.int .i64 0,.int .i64 0,.slice ka ks.length kc]] w fun e w'=>e=.returned (.bool (BD r.fields (.mk 5 0 [] 0 0 ks)))∧A6 w.heap.size w w':=by
 have hmf:∀ (fn:Fn) (first cap:Array Ah) (w:A9),(Cl fn first cap).run A3 w=.ok (.func fn first cap) w:=fun _ _ _ _=>rfl
 obtain⟨b,hb⟩:∃ b,BD r.fields (.mk 5 0 [] 0 0 ks)=b:=⟨_,rfl⟩
 rw[hb]
 obtain⟨W,hW⟩:∃ W,(w.alloc (.cells #[.int .i64 r.id,.int .i64 r.ver,.int .i64 r.kind,.string r.lang,.slice fa r.fields.length fc] 51)).alloc (.cells #[.int .i64 5,.int .i64 0,.slice sa 0 sc,.int .i64 0,.int .i64 0,.slice ka ks.length kc] 29)=W:=⟨_,rfl⟩
 have hRQ:=Et w r.id r.ver r.kind r.lang (.slice fa r.fields.length fc) (.int .i64 5) (.int .i64 0) (.slice sa 0 sc) (.int .i64 0) (.int .i64 0) (.slice ka ks.length kc) 51 29
 rw[hW]at hRQ
 obtain⟨hB,c0,c1,c2,c3,c4,d0,d1,d2,d3,d4,d5⟩:=hRQ
 have hFW:=h.below hB
 rw[Sr.match5]at hb
 have hb2:ks.any (fun q=>!Sr.matchB r.fields q)=!b:=by rw[← hb,List.any_eq_not_all_not];simp
 have hCR:Sr.CapR W w.heap.size r fa fc:=⟨c0,c1,c2,c3,c4⟩
 have CF:=contQ_c 60 #[.pointer (A2 ⟨w.heap.size,0,A4⟩)] sr_m2_enters B (fun q=>!Sr.matchB r.fields q) ks ka kc W (hK.below hB) hne (fun k hk cs W' hW' hq=>(sr_m2_c r fa fc B _ k (IH k hk) cs W' (hq.later hW') (hCR.below hW') (hFW.below hW') ((hG.below hB).below hW')).mono fun _ _ ⟨h8,h9⟩=>⟨h8,A8 hW' h9⟩)
 rw[hb2]at CF
 have HCF:=J CF
 clear CF hb hb2 hFW h hK IH hCR hG hne
 go_enter Fi,EX
 go_wp2_with (go_at_call 68;((with_reducible refine HCF.out.mono ?_);rintro e w2 ⟨rfl,hb2'⟩))
 go_ret
 exact⟨Tx.retb (by simp),A8 hB hb2'⟩
theorem sr_Match_6 (r:BF) (fa:Option Ao) (fc:Nat) (B:Nat) (ks:List Qr.Qy) (sa:Option Ao) (sc:Nat) (ka:Option Ao) (kc:Nat) (w:A9) (h:AV w fa fc r.fields) (hG:G w) (hK:Qr.KA B w ka kc ks) (hne:ks≠[]) (IH:∀ k∈ks,Sr.MP r fa fc B k) :
  Ac A3 25 #[.agg #[.int .i64 r.id,.int .i64 r.ver,.int .i64 r.kind,.string r.lang,.slice fa r.fields.length fc],.agg #[.int .i64 6,.int .i64 0,.slice sa 0 sc,.int .i64 0,.int .i64 0,.slice ka ks.length kc]] w fun e w'=>e=.returned (.bool (BD r.fields (.mk 6 0 [] 0 0 ks)))∧A6 w.heap.size w w':=by
 have hmf:∀ (fn:Fn) (first cap:Array Ah) (w:A9),(Cl fn first cap).run A3 w=.ok (.func fn first cap) w:=fun _ _ _ _=>rfl
 obtain⟨b,hb⟩:∃ b,BD r.fields (.mk 6 0 [] 0 0 ks)=b:=⟨_,rfl⟩
 rw[hb]
 obtain⟨W,hW⟩:∃ W,(w.alloc (.cells #[.int .i64 r.id,.int .i64 r.ver,.int .i64 r.kind,.string r.lang,.slice fa r.fields.length fc] 51)).alloc (.cells #[.int .i64 6,.int .i64 0,.slice sa 0 sc,.int .i64 0,.int .i64 0,.slice ka ks.length kc] 29)=W:=⟨_,rfl⟩
 have hRQ:=Et w r.id r.ver r.kind r.lang (.slice fa r.fields.length fc) (.int .i64 6) (.int .i64 0) (.slice sa 0 sc) (.int .i64 0) (.int .i64 0) (.slice ka ks.length kc) 51 29
 rw[hW]at hRQ
 obtain⟨hB,c0,c1,c2,c3,c4,d0,d1,d2,d3,d4,d5⟩:=hRQ
 have hFW:=h.below hB
 rw[Sr.match6]at hb
 have hb2:=hb
 have hCR:Sr.CapR W w.heap.size r fa fc:=⟨c0,c1,c2,c3,c4⟩
 have CF:=contQ_c 59 #[.pointer (A2 ⟨w.heap.size,0,A4⟩)] sr_m1_enters B (BD r.fields) ks ka kc W (hK.below hB) hne (fun k hk cs W' hW' hq=>(sr_m1_c r fa fc B _ k (IH k hk) cs W' (hq.later hW') (hCR.below hW') (hFW.below hW') ((hG.below hB).below hW')).mono fun _ _ ⟨h8,h9⟩=>⟨h8,A8 hW' h9⟩)
 rw[hb2]at CF
 have HCF:=J CF
 clear CF hb hb2 hFW h hK IH hCR hG hne
 go_enter Fi,EX
 go_wp2_with (go_at_call 68;((with_reducible refine HCF.out.mono ?_);rintro e w2 ⟨rfl,hb2'⟩))
 go_ret
 exact⟨rfl,A8 hB hb2'⟩
theorem sr_Match_7 (r:BF) (fa:Option Ao) (fc:Nat) (B:Nat) (x y:Qr.Qy) (sa:Option Ao) (sc:Nat) (ka:Option Ao) (kc:Nat) (w:A9) (h:AV w fa fc r.fields) (hG:G w) (hK:Qr.KA B w ka kc [x,y]) (IX:Sr.MP r fa fc B x) (IY:Sr.MP r fa fc B y) :
  Ac A3 25 #[.agg #[.int .i64 r.id,.int .i64 r.ver,.int .i64 r.kind,.string r.lang,.slice fa r.fields.length fc],.agg #[.int .i64 7,.int .i64 0,.slice sa 0 sc,.int .i64 0,.int .i64 0,.slice ka 2 kc]] w fun e w'=>e=.returned (.bool (BD r.fields (.mk 7 0 [] 0 0 [x,y])))∧A6 w.heap.size w w':=by
 have hmf:∀ (fn:Fn) (first cap:Array Ah) (w:A9),(Cl fn first cap).run A3 w=.ok (.func fn first cap) w:=fun _ _ _ _=>rfl
 obtain⟨b,hb⟩:∃ b,BD r.fields (.mk 7 0 [] 0 0 [x,y])=b:=⟨_,rfl⟩
 rw[hb]
 obtain⟨W,hW⟩:∃ W,(w.alloc (.cells #[.int .i64 r.id,.int .i64 r.ver,.int .i64 r.kind,.string r.lang,.slice fa r.fields.length fc] 51)).alloc (.cells #[.int .i64 7,.int .i64 0,.slice sa 0 sc,.int .i64 0,.int .i64 0,.slice ka 2 kc] 29)=W:=⟨_,rfl⟩
 have hRQ:=Et w r.id r.ver r.kind r.lang (.slice fa r.fields.length fc) (.int .i64 7) (.int .i64 0) (.slice sa 0 sc) (.int .i64 0) (.int .i64 0) (.slice ka 2 kc) 51 29
 rw[hW]at hRQ
 obtain⟨hB,c0,c1,c2,c3,c4,d0,d1,d2,d3,d4,d5⟩:=hRQ
 have hFW:=h.below hB
 rw[Sr.match7]at hb
 obtain⟨kb,ko,xsa,xsc,xka,xkc,rfl,hkb,x0,x1,x2,x3,x4,x5,hqx⟩:=(hK.below hB).get (k:=0) (q:=x) rfl
 obtain⟨kb2,ko2,ysa,ysc,yka,ykc,e9,hkb2,y0,y1,y2,y3,y4,y5,hqy⟩:=(hK.below hB).get (k:=1) (q:=y) rfl
 injection e9 with e9
 injection e9 with e9 e8
 subst e9 e8
 rw[Ew,Bs]at x0
 simp only[Ew,Nat.one_mul,Bs,Nat.add_assoc,Nat.reduceAdd]at x0 x1 x2 x3 x4 x5 y0 y1 y2 y3 y4 y5
 have hCR:Sr.CapR W w.heap.size r fa fc:=⟨c0,c1,c2,c3,c4⟩
 have CX:=sr_m1_c r fa fc B w.heap.size x IX _ W hqx hCR hFW (hG.below hB)
 have CY:∀ W',A6 W.heap.size W W'→_:=fun W' h9=>sr_m2_c r fa fc B w.heap.size y IY _ W' (hqy.later h9) (hCR.below h9) (hFW.below h9) ((hG.below hB).below h9)
 obtain⟨t,ht⟩:∃ t,BD r.fields x=t:=⟨_,rfl⟩
 obtain⟨u,hu⟩:∃ u,BD r.fields y=u:=⟨_,rfl⟩
 rw[ht]at CX hb
 rw[hu]at CY hb
 have HCX:=J CX
 have HCY:=J CY
 subst hb
 clear CX CY ht hu hqx hqy hFW h hK IX IY hkb2 hG hCR c0 c1 c2 c3 c4
 cases t with
 | true =>
  have tu:(true&&!u)=!u:=rfl
  rw[tu]
  go_enter Fi,EX
  go_wp2_with (first
   |(go_at_call 59;refine HCX.out.mono ?_;rintro e wx ⟨rfl,hbx⟩;replace d5:=A0 hbx d5;replace y0:=A0 hbx y0;replace y1:=A0 hbx y1;replace y2:=A0 hbx y2;replace y3:=A0 hbx y3;replace y4:=A0 hbx y4;replace y5:=A0 hbx y5)
   |(go_at_call 60;refine (HCY.out _ hbx).mono ?_;rintro e wz ⟨rfl,hbz⟩))
  go_ret
  exact⟨rfl,A8 hB (A8 hbx hbz)⟩
 | false =>
  go_enter Fi,EX
  go_wp2_with (go_at_call 59;refine HCX.out.mono ?_;rintro e wx ⟨rfl,hbx⟩)
  go_ret
  exact⟨rfl,A8 hB hbx⟩
theorem search_Match_c (r:BF) (fa:Option Ao) (fc B:Nat) (hR:FH r):∀ q,Sr.Rq q→Sr.MP r fa fc B q:=by
 refine Qr.Qy.ind ?_
 intro o f ws a b ks ih hq cs w hc h hG
 obtain⟨sa,sc,ka,kc,rfl,hw,_,hK⟩:=hc.kids
 dsimp only[Qr.Qy.op,Qr.Qy.fld,Qr.Qy.a,Qr.Qy.b,Qr.Qy.ks,Qr.Qy.ws]at hw hK ⊢
 have hS:ws≠[]→SLA w sa sc ws:=fun hne=>by
  obtain⟨a9,c9,e,h9⟩:=hw.sla
  injection e with e1 e2 e3
  subst e1 e3
  exact h9 hne
 have hne:1≤ws.length→ws≠[]:=fun h9 e=>by rw[e]at h9;exact absurd h9 (by decide)
 cases hq with
 | term h1 h2 h3 h5 h4 =>
  rcases h1 with rfl | rfl | rfl
  ·obtain⟨y,rfl⟩:=E2.1 (h5 (by decide))
   exact sr_Match_1 r fa fc f y sa sc ka kc w h hR hG (hS (hne h3.1))
  ·obtain⟨y,rfl⟩:=E2.1 (h5 (by decide))
   exact sr_Match_2 r fa fc f y sa sc ka kc w h hR hG (hS (hne h3.1))
  ·exact sr_Match_3 r fa fc f ws sa sc ka kc w h hR hG (hS (hne h3.1)) (hne h3.1) (by omega)
 | years h1 h2=>exact sr_Match_4 r fa fc a b sa sc ka kc w h hR
 | kids h1 h2 h4 h3 =>
  have hk0:ks≠[]:=fun e=>by rw[e]at h2;exact absurd h2.1 (by decide)
  rcases h1 with rfl | rfl | rfl
  ·exact sr_Match_5 r fa fc B ks sa sc ka kc w h hG hK hk0 fun k hk=>ih k hk (h3 k hk)
  ·exact sr_Match_6 r fa fc B ks sa sc ka kc w h hG hK hk0 fun k hk=>ih k hk (h3 k hk)
  ·obtain⟨x,y,rfl⟩:∃ x y,ks=[x,y]:=by
    have h6:=h4 rfl
    match ks,h6 with
    | [x,y],_=>exact⟨x,y,rfl⟩
   exact sr_Match_7 r fa fc B x y sa sc ka kc w h hG hK (ih x AY (h3 x AY)) (ih y (Bw _ AY) (h3 y (Bw _ AY)))
end Go.Proofs.YtlakomilichhnaaGreatDoor
namespace Go.Proofs.YtlakomilichhnaaGreatDoor
set_option maxHeartbeats 800000
set_option maxRecDepth 100000
open Go.RowKit
open Go renaming cell_later→A0
open Lib renaming hid→J
namespace Qr
end Qr
namespace Rc
end Rc
namespace Sr
open Rc hiding bys
open Qr
def RiQ (q:Qy):Prop:=Sm q∧rightE q=0
theorem RiQ.rq {q:Qy} (h:RiQ q):Rq q:=rq_right h.2
theorem RiQ.wz {q:Qy} (h:RiQ q):Wz 1000000 q:=h.1.2.wz
end Sr
theorem sr_right_c (B:Nat) (q:Qr.Qy) (cs:List Value) (w:World) (h:Qr.QC B w q cs) :
  Calls Tryz.prog 12 #[.agg cs.toArray] w fun e w'=>∃ b:Bool,e=.returned (.bool b)∧(b=true↔Sr.RiQ q)∧Below w.heap.size w w':=by
 obtain⟨sa,sc,ka,kc,rfl,_,_,_⟩:=h.kids
 obtain⟨W,hW⟩:∃ W,w.alloc (.cells #[.int .i64 q.op,.int .i64 q.fld,.slice sa q.ws.length sc,.int .i64 q.a,.int .i64 q.b,.slice ka q.ks.length kc] 29)=W:=⟨_,rfl⟩
 have hB:Below w.heap.size w W:=by rw[← hW];exact Tx.newb _ _
 have d0:W.cell? ⟨w.heap.size,0,none⟩=some (.int .i64 q.op):=by rw[← hW];simp
 have d1:W.cell? ⟨w.heap.size,1,none⟩=some (.int .i64 q.fld):=by rw[← hW];simp
 have d2:W.cell? ⟨w.heap.size,2,none⟩=some (.slice sa q.ws.length sc):=by rw[← hW];simp
 have d3:W.cell? ⟨w.heap.size,3,none⟩=some (.int .i64 q.a):=by rw[← hW];simp
 have d4:W.cell? ⟨w.heap.size,4,none⟩=some (.int .i64 q.b):=by rw[← hW];simp
 have d5:W.cell? ⟨w.heap.size,5,none⟩=some (.slice ka q.ks.length kc):=by rw[← hW];simp
 have SC:=r21_Small_c B q _ W (h.later hB)
 cases hs:Qr.smB q with
 | false =>
  rw[hs]at SC
  have HSC:=J SC
  have HF:Hid (¬ Sr.RiQ q):=J (fun h9=>by rw[Qr.smB_t.2 h9.1]at hs;cases hs)
  clear SC hs h
  go_enter Tryz.func12,Tryz.ntmps12
  go_wp2_with (go_at_call 31;((with_reducible refine HSC.out.mono ?_);rintro e w1 ⟨rfl,hb1⟩))
  go_ret
  exact⟨false,rfl,⟨fun h9=>(by cases h9),fun h9=>absurd h9 HF.out⟩,Tx.step hB hb1⟩
 | true =>
  rw[hs]at SC
  have HSC:=J SC
  have hsm:=Qr.smB_t.1 hs
  have RC:∀ W',Below W.heap.size W W'→_:=fun W' h9=>r21_Right_c B q _ W' ((h.later hB).later h9) hsm.2.wz (by have:=hsm.1;omega)
  obtain⟨E,hE⟩:∃ E,Qr.rightE q=E:=⟨_,rfl⟩
  rw[hE]at RC
  have HRC:=J RC
  have HI:Hid ((E == 0)=true↔Sr.RiQ q):=J ⟨fun h9=>⟨hsm,by rw[hE];exact beq_iff_eq.1 h9⟩,fun h9=>by rw[beq_iff_eq,← hE];exact h9.2⟩
  obtain⟨b,hb⟩:∃ b,(E == 0)=b:=⟨_,rfl⟩
  have HI2:Hid (b=true↔Sr.RiQ q):=J (by rw[← hb];exact HI.out)
  clear SC hs h RC hsm hE HI
  go_enter Tryz.func12,Tryz.ntmps12
  go_wp2_with (first
   |(go_at_call 31;((with_reducible refine HSC.out.mono ?_);rintro e w1 ⟨rfl,hb1⟩;have e0:=A0 hb1 d0;have e1:=A0 hb1 d1;have e2:=A0 hb1 d2;have e3:=A0 hb1 d3;have e4:=A0 hb1 d4;have e5:=A0 hb1 d5))
   |(go_at_call 32;((with_reducible refine (HRC.out _ hb1).mono ?_);rintro e w2 ⟨rfl,hb2⟩)))
  go_ret
  exact⟨b,rfl,HI2.out,Tx.step hB (Tx.step hb1 hb2)⟩
end Go.Proofs.YtlakomilichhnaaGreatDoor
namespace Go.Proofs.YtlakomilichhnaaGreatDoor
set_option maxHeartbeats 6400000
set_option maxRecDepth 100000
open Go.RowKit
open Go renaming Calls→Ac,cell_later→A0
open Lib renaming hid→J
open List renaming getElem?_eq_getElem→A7,length→Cd,length_take→Az,take_length→Ap
open Option renaming none→A4,some→A2
open Proofs.Tryz renaming prog→A3
open RowKit renaming Below→A6,intOf→Ad
open RowKit.Below renaming refl→Ab
open Sr renaming matchB→BD,order→Jt
open Tx renaming below_drewN→Ba,step→A8
theorem exact_law (l:List Rc.Rd) (la:Option Addr) (lc B:Nat) (q:Qr.Qy) (cs:List Value) (by_:Int) (w:World) (hG:G w) (h:Rc.RdA w la lc l) (hq:Qr.QC B w q cs) :
  Ac A3 9 #[.slice la l.length lc,.agg cs.toArray,.int .i64 by_] w fun e w'=>e=.returned (.bool true)∧A6 w.heap.size w w':=by
 obtain⟨sa,sc,ka,kc,rfl,_,_,_⟩:=hq.kids
 obtain⟨W,hW⟩:∃ W,w.alloc (.cells #[.int .i64 q.op,.int .i64 q.fld,.slice sa q.ws.length sc,.int .i64 q.a,.int .i64 q.b,.slice ka q.ks.length kc] 29)=W:=⟨_,rfl⟩
 have hB:A6 w.heap.size w W:=by rw[← hW];exact Tx.newb _ _
 have d0:W.cell? ⟨w.heap.size,0,A4⟩=A2 (.int .i64 q.op):=by rw[← hW];simp
 have d1:W.cell? ⟨w.heap.size,1,A4⟩=A2 (.int .i64 q.fld):=by rw[← hW];simp
 have d2:W.cell? ⟨w.heap.size,2,A4⟩=A2 (.slice sa q.ws.length sc):=by rw[← hW];simp
 have d3:W.cell? ⟨w.heap.size,3,A4⟩=A2 (.int .i64 q.a):=by rw[← hW];simp
 have d4:W.cell? ⟨w.heap.size,4,A4⟩=A2 (.int .i64 q.b):=by rw[← hW];simp
 have d5:W.cell? ⟨w.heap.size,5,A4⟩=A2 (.slice ka q.ks.length kc):=by rw[← hW];simp
 have HA:=J (sr_alive_c W (hG.below hB))
 have HG:=J (hG.below hB)
 have HL:=J (h.below hB)
 have HQ:=J (hq.later hB)
 have hcap:=h.cap
 have hmax:=h.max
 have hml:maxLen=9223372036854775807:=rfl
 have HLT:Hid (∀ W',A6 W.heap.size W W'→Ac A3 11 #[.slice la l.length lc] W' fun e w'=>∃ b:Bool,e=.returned (.bool b)∧(b=true↔Sr.RightP l)∧A6 W'.heap.size W' w'):=J (fun W' h9=>r22_Right_c l la lc W' (HL.out.below h9))
 have HQT:Hid (∀ W',A6 W.heap.size W W'→Ac A3 12 #[.agg #[.int .i64 q.op,.int .i64 q.fld,.slice sa q.ws.length sc,.int .i64 q.a,.int .i64 q.b,.slice ka q.ks.length kc]] W' fun e w'=>∃ b:Bool,e=.returned (.bool b)∧(b=true↔Sr.RiQ q)∧A6 W'.heap.size W' w'):=J (fun W' h9=>sr_right_c B q _ W' (HQ.out.later h9))
 clear h hq hG
 by_cases hL:Sr.RightP l
 ·have HLC:Hid (∀ W',A6 W.heap.size W W'→Ac A3 11 #[.slice la l.length lc] W' fun e w'=>e=.returned (.bool true)∧A6 W'.heap.size W' w'):=J (fun W' h9=>(HLT.out W' h9).mono fun e w' ⟨b,he,hb,hq⟩=>⟨by rw[he,hb.2 hL],hq⟩)
  by_cases hR:Sr.RiQ q
  ·have HQC:Hid (∀ W',A6 W.heap.size W W'→Ac A3 12 #[.agg #[.int .i64 q.op,.int .i64 q.fld,.slice sa q.ws.length sc,.int .i64 q.a,.int .i64 q.b,.slice ka q.ks.length kc]] W' fun e w'=>e=.returned (.bool true)∧A6 W'.heap.size W' w'):=J (fun W' h9=>(HQT.out W' h9).mono fun e w' ⟨b,he,hb,hq⟩=>⟨by rw[he,hb.2 hR],hq⟩)
   have hrl:=hL.rl
   have hrq:=hR.rq
   have hwz:=hR.wz
   have hne:∀ r∈l,r.id≠0:=fun r hr=>(hL.2.1 r hr).2
   have hll:=hrl.len
   obtain⟨N,hN⟩:∃ N,Sr.evalQ (Ix.build l) l q=N:=⟨_,rfl⟩
   have hNa:Cp.Asc Cp.ltI N:=by rw[← hN];exact Sr.evalQ_asc _ _ _
   have hNo:∀ n∈N,∃ r∈l,r.id=n:=by rw[← hN];exact Sr.evalQ_of
   have hNl:N.length≤l.length:=by rw[← hN];exact Sr.evalQ_len _ _ _
   have hNm:∀ r∈l,decide (r.id∈N)=BD r.fields q:=fun r hr=>by rw[← hN];exact Sr.evalQ_has hrl hne hrq hr
   have hNd:=Sr.asc_nodup hNa
   have HFA:=J (Sr.fnd_all hNd hrl.n hNo)
   have HNM:=J hNm
   have HND:=J hNd
   have BC:∀ W',A6 W.heap.size W W'→Ac A3 27 #[.slice la l.length lc] W' fun e w'=>∃ a' c' T',e=.returned (.agg #[.slice a' (Cd T') c'])∧Ix.PsA w' a' c' T'∧Sr.Gx T'∧T'.map (·.1)=Ix.build l∧A6 W'.heap.size W' w':=fun W' h9 =>
    (r20_Build_c l la lc W' (HL.out.below h9) (by omega) (fun r hr=>(hrl.r r hr).mod)).mono fun e w' ⟨a',c',T',he,hp,hm,hl,hb⟩=>⟨a',c',T',he,hp,Sr.gx_build hrl hm hl,hm,hb⟩
   have EC:∀ W' a' c' T',A6 W.heap.size W W'→Ix.PsA W' a' c' T'→Sr.Gx T'→T'.map (·.1)=Ix.build l→Ac A3 15 #[.agg #[.slice a' (Cd T') c'],.slice la l.length lc,.agg #[.int .i64 q.op,.int .i64 q.fld,.slice sa q.ws.length sc,.int .i64 q.a,.int .i64 q.b,.slice ka q.ks.length kc]] W' fun e w'=>∃ ia ic,e=.returned (.slice ia N.length ic)∧Ix.IA w' ia ic N∧A6 W'.heap.size W' w':=fun W' a' c' T' h9 hp hx hm=>by
    have h:=search_Eval_c T' a' c' l la lc B q _ W' hp hx (HL.out.below h9) hrl.r hrl.dist (by omega) (HQ.out.later h9) hrq hwz
    rw[hm,hN]at h
    exact h.mono fun e w' ⟨v,he,ho,hb⟩=>by obtain⟨ia,ic,rfl,hia,_⟩:=Ix.IA.of_own ho rfl;exact⟨ia,ic,he,hia,hb⟩
   have MC:∀ r∈l,∀ fa fc W',A6 W.heap.size W W'→Rc.FldA W' fa fc r.fields→Ac A3 25 #[.agg #[.int .i64 r.id,.int .i64 r.ver,.int .i64 r.kind,.string r.lang,.slice fa r.fields.length fc],.agg #[.int .i64 q.op,.int .i64 q.fld,.slice sa q.ws.length sc,.int .i64 q.a,.int .i64 q.b,.slice ka q.ks.length kc]] W' fun e w'=>e=.returned (.bool (BD r.fields q))∧A6 W'.heap.size W' w':=fun r hr fa fc W' h9 hf =>
    search_Match_c r fa fc B (hrl.r r hr) q hrq _ W' (HQ.out.later h9) hf (HG.out.below h9)
   have O1:∀ W' ia ic,A6 W.heap.size W W'→Ix.IA W' ia ic N→Ac A3 17 #[.slice la l.length lc,.slice ia N.length ic,.int .i64 by_,.string ⟨[101,110,103].toArray⟩] W' fun e w'=>∃ oa oc,e=.returned (.slice oa (Jt l N by_ [101,110,103]).length oc)∧Ix.IA w' oa oc (Jt l N by_ [101,110,103])∧A6 W'.heap.size W' w':=fun W' ia ic h9 hia =>
    (search_Order_c l la lc N ia ic by_ ⟨[101,110,103].toArray⟩ W' (HG.out.below h9) (HL.out.below h9) hia hrl.r hrl.n hrl.len).mono fun e w' ⟨v,he,ho,hb⟩=>by obtain⟨ia,ic,rfl,hia,_⟩:=Ix.IA.of_own ho rfl;exact⟨ia,ic,he,hia,hb⟩
   obtain⟨O,hO⟩:∃ O,Jt l N by_ [101,110,103]=O:=⟨_,rfl⟩
   rw[hO]at O1
   have hback:Jt l O 0 []=N:=by rw[← hO];exact Sr.order_back hNa hNo
   have O2:∀ W' ia ic,A6 W.heap.size W W'→Ix.IA W' ia ic O→Ac A3 17 #[.slice la l.length lc,.slice ia O.length ic,.int .i64 0,.string ⟨#[]⟩] W' fun e w'=>∃ oa oc,e=.returned (.slice oa N.length oc)∧Ix.IA w' oa oc N∧A6 W'.heap.size W' w':=fun W' ia ic h9 hia=>by
    have h:=search_Order_c l la lc O ia ic 0 ⟨#[]⟩ W' (HG.out.below h9) (HL.out.below h9) hia hrl.r hrl.n hrl.len
    rw[show (⟨#[]⟩:ByteArray).data.toList=[] from rfl,hback]at h
    exact h.mono fun e w' ⟨v,he,ho,hb⟩=>by obtain⟨ia,ic,rfl,hia,_⟩:=Ix.IA.of_own ho rfl;exact⟨ia,ic,he,hia,hb⟩
   have HBC:=J BC
   have HEC:=J EC
   have HMC:=J MC
   have HO1:=J O1
   have HO2:=J O2
   clear BC EC MC O1 O2 hback hO hNm hNd hNo hNa hN hne hwz hrq hrl hL hR HLT HQT
   go_enter Tryz.func9,Tryz.ntmps9
   go_wp2_with (first
    |(go_at_call 10;((with_reducible refine HA.out.mono ?_);rintro e w1 ⟨rfl,hb1⟩;have x0:=A0 hb1 d0;have x1:=A0 hb1 d1;have x2:=A0 hb1 d2;have x3:=A0 hb1 d3;have x4:=A0 hb1 d4;have x5:=A0 hb1 d5))
    |(go_at_call 11;((with_reducible refine (HLC.out _ hb1).mono ?_);rintro e w2 ⟨rfl,hq⟩;have hb2:=A8 hb1 hq;have y0:=A0 hq x0;have y1:=A0 hq x1;have y2:=A0 hq x2;have y3:=A0 hq x3;have y4:=A0 hq x4;have y5:=A0 hq x5;clear hq))
    |(go_at_call 12;((with_reducible refine (HQC.out _ hb2).mono ?_);rintro e w3 ⟨rfl,hq⟩;have hb3:=A8 hb2 hq;have z0:=A0 hq y0;have z1:=A0 hq y1;have z2:=A0 hq y2;have z3:=A0 hq y3;have z4:=A0 hq y4;have z5:=A0 hq y5;clear hq)))
   clear hW d0 x0 y0 d1 x1 y1 d2 x2 y2 d3 x3 y3 d4 x4 y4 d5 x5 y5
   have hb3s:=hb3.size
   go_region_held3 (fun w'=>A6 w3.heap.size w3 w'∧w'.cell? ⟨w.heap.size,0,A4⟩=A2 (.int .i64 q.op)∧w'.cell? ⟨w.heap.size,1,A4⟩=A2 (.int .i64 q.fld)∧w'.cell? ⟨w.heap.size,2,A4⟩=A2 (.slice sa q.ws.length sc)∧w'.cell? ⟨w.heap.size,3,A4⟩=A2 (.int .i64 q.a)∧w'.cell? ⟨w.heap.size,4,A4⟩=A2 (.int .i64 q.b)∧w'.cell? ⟨w.heap.size,5,A4⟩=A2 (.slice ka q.ks.length kc))
    (first | exact⟨(Ab _ _).drew,z0,z1,z2,z3,z4,z5⟩ | (go_split_ands;exact⟨A8 ‹_› hbx,by repeat' first | exact A0 hbx ‹_› | constructor⟩))
    (first
     |(go_split_ands;go_at_call 27;((with_reducible refine (HBC.out _ (A8 hb3 ‹_›)).mono ?_);rintro e wx ⟨a',c',T',rfl,hp,hx,hm,hbx⟩;have HPX:=J hp;have HGX:=J hx;have HMX:=J hm;clear hp hx hm))
     |(go_split_ands;go_at_call 15;((with_reducible refine (HEC.out _ _ _ _ (A8 hb3 ‹_›) HPX.out HGX.out HMX.out).mono ?_);rintro e wx ⟨ia,ic,rfl,hia,hbx⟩;have HIA:=J hia;clear hia)))
   go_split_ands
   have hb9:A6 w3.heap.size w3 wx:=by assumption
   have e0:=A0 hb9 z0
   have e1:=A0 hb9 z1
   have e2:=A0 hb9 z2
   have e3:=A0 hb9 z3
   have e4:=A0 hb9 z4
   have e5:=A0 hb9 z5
   have hbW:=A8 hb3 hb9
   clear z0 z1 z2 z3 z4 z5 hb9
   go_wp2
   go_loopw [8,9,10,11] (fun n i _ _ wr=>∃ k:Nat,k≤l.length∧i=.int .i64 k∧n=.int .i64 (Sr.fnd N (l.take k):Nat)∧A6 wx.heap.size wx wr) (fun _ i _ _ _=>l.length - (Ad i).toNat)
   case atStart=>exact⟨0,Nat.zero_le _,by go_num,rfl,Ab _ _⟩
   case round =>
    obtain⟨k,hk,rfl,rfl,hb⟩:=hrel
    have hfl:=Sr.fnd_le N (l.take k)
    rw[Az]at hfl
    by_cases hlt:k<l.length
    ·obtain⟨x,hx⟩:∃ x,l[k]?=A2 x:=⟨_,A7 hlt⟩
     obtain⟨b,o,fa,fc,rfl,hbl,x0,x1,x2,x3,x4,hfx⟩:=HL.out.get hx
     replace x0:=A0 (A8 hbW hb) x0
     replace x1:=A0 (A8 hbW hb) x1
     replace x2:=A0 (A8 hbW hb) x2
     replace x3:=A0 (A8 hbW hb) x3
     replace x4:=A0 (A8 hbW hb) x4
     have hxm:=List.mem_of_getElem? hx
     have hft:=Sr.fnd_take (N:=N) hx
     have hmx:=HNM.out x hxm
     have HCM:=J (fun W' (h9:A6 W.heap.size W W')=>HMC.out x hxm fa fc W' h9 (hfx.below h9))
     have HFT:=J hft
     have HMX2:=J hmx
     obtain⟨c,hc⟩:∃ c,Sr.fnd N (l.take k)=c:=⟨_,rfl⟩
     rw[hc]at HFT hfl ⊢
     obtain⟨wo,hwo⟩:∃ wo,wo=wr:=⟨_,rfl⟩
     subst hwo
     clear hft hmx hfx hxm hx hc
     go_wp2
     go_loopw [10,11] (fun kk jj wr=>∃ j:Nat,j≤N.length∧jj=.int .i64 j∧kk=.int .i64 ((N.take j).count x.id:Nat)∧A6 wo.heap.size wo wr) (fun _ jj _=>N.length - (Ad jj).toNat)
     case atStart=>exact⟨0,Nat.zero_le _,by go_num,by rw[List.take_zero];rfl,Ab _ _⟩
     case round =>
      obtain⟨j,hj,rfl,rfl,hb2⟩:=hrel
      have hcl:(N.take j).count x.id≤j:=by
       have:=List.count_le_length (a:=x.id) (l:=N.take j)
       rw[Az]at this
       omega
      have hki:(k:Int)<(l.length:Int):=by omega
      by_cases hjl:j<N.length
      ·obtain⟨y,hy⟩:∃ y,N[j]?=A2 y:=⟨_,A7 hjl⟩
       obtain⟨bi,oi,rfl,hbi,u0⟩:=Ix.IA.cell (HIA.out.below (A8 hb hb2)) hy
       have v0:=A0 hb2 x0
       have hct:=Sr.count_take (a:=x.id) hy
       have hji:(j:Int)<(N.length:Int):=by omega
       obtain⟨m,hm⟩:∃ m,(N.take j).count x.id=m:=⟨_,rfl⟩
       rw[hm]at hct hcl ⊢
       by_cases hyx:y=x.id
       ·rw[if_pos hyx]at hct
        have t1:(y == x.id)=true:=beq_iff_eq.2 hyx
        have HCT:=J hct
        clear hct hyx hy hm
        go_wp2
        go_quiet (fail)
        have hbq:=Ba (Ab wr.heap.size wr) nq
        generalize wr.drewN nq=w5 at hbq ⊢
        go_wp2
        go_roundw
        case rel=>exact⟨j+1,hjl,by go_num,by rw[HCT.out];go_num,A8 hb2 hbq⟩
        case measure=>simp[Ad];omega
       ·rw[if_neg hyx]at hct
        have t1:(y == x.id)=false:=beq_eq_false_iff_ne.2 hyx
        have HCT:=J hct
        clear hct hyx hy hm
        go_wp2
        go_quiet (fail)
        have hbq:=Ba (Ab wr.heap.size wr) nq
        generalize wr.drewN nq=w5 at hbq ⊢
        go_wp2
        go_roundw
        case rel=>exact⟨j+1,hjl,by go_num,by rw[HCT.out];rfl,A8 hb2 hbq⟩
        case measure=>simp[Ad];omega
      ·obtain rfl:j=N.length:=by omega
       rw[Ap,Sr.count_one HND.out]
       have hbo:=A8 hb hb2
       have s0:=A0 hbo e0
       have s1:=A0 hbo e1
       have s2:=A0 hbo e2
       have s3:=A0 hbo e3
       have s4:=A0 hbo e4
       have s5:=A0 hbo e5
       have p0:=A0 hb2 x0
       have p1:=A0 hb2 x1
       have p2:=A0 hb2 x2
       have p3:=A0 hb2 x3
       have p4:=A0 hb2 x4
       by_cases hin:x.id∈N
       ·rw[if_pos hin]
        have hmt:BD x.fields q=true:=by rw[← HMX2.out];exact decide_eq_true hin
        have MC2:∀ W',A6 W.heap.size W W'→_:=fun W' h9=>HCM.out W' h9
        rw[hmt]at MC2
        have HCC:=J MC2
        have HF2:Hid (Sr.fnd N (l.take (k+1))=c+1):=J (by rw[HFT.out,if_pos hin])
        clear MC2 hmt hin
        go_wp2
        go_region_held3 (fun w'=>A6 wr.heap.size wr w'∧w'.cell? ⟨w.heap.size,0,A4⟩=A2 (.int .i64 q.op)∧w'.cell? ⟨w.heap.size,1,A4⟩=A2 (.int .i64 q.fld)∧w'.cell? ⟨w.heap.size,2,A4⟩=A2 (.slice sa q.ws.length sc)∧w'.cell? ⟨w.heap.size,3,A4⟩=A2 (.int .i64 q.a)∧w'.cell? ⟨w.heap.size,4,A4⟩=A2 (.int .i64 q.b)∧w'.cell? ⟨w.heap.size,5,A4⟩=A2 (.slice ka q.ks.length kc)∧w'.cell? ⟨b,o+k*5,A4⟩=A2 (.int .i64 x.id)∧w'.cell? ⟨b,o+k*5+1,A4⟩=A2 (.int .i64 x.ver)∧w'.cell? ⟨b,o+k*5+2,A4⟩=A2 (.int .i64 x.kind)∧w'.cell? ⟨b,o+k*5+3,A4⟩=A2 (.string x.lang)∧w'.cell? ⟨b,o+k*5+4,A4⟩=A2 (.slice fa x.fields.length fc))
         (first | exact⟨(Ab _ _).drew,s0,s1,s2,s3,s4,s5,p0,p1,p2,p3,p4⟩ | (go_split_ands;exact⟨A8 ‹_› hbx,by repeat' first | exact A0 hbx ‹_› | constructor⟩))
         (first | (go_split_ands;go_at_call 25;((with_reducible refine (HCC.out _ (A8 hbW (A8 hbo ‹_›))).mono ?_);rintro e wy ⟨rfl,hbx⟩)))
        go_split_ands
        have hb9:A6 wr.heap.size wr wy:=by assumption
        go_wp2
        go_roundw
        case rel=>exact⟨k+1,hlt,by go_num,by rw[HF2.out];go_num,A8 hbo hb9⟩
        case measure=>simp[Ad];omega
       ·rw[if_neg hin]
        have hmt:BD x.fields q=false:=by rw[← HMX2.out];exact decide_eq_false hin
        have MC2:∀ W',A6 W.heap.size W W'→_:=fun W' h9=>HCM.out W' h9
        rw[hmt]at MC2
        have HCC:=J MC2
        have HF2:Hid (Sr.fnd N (l.take (k+1))=c+0):=J (by rw[HFT.out,if_neg hin])
        clear MC2 hmt hin
        go_wp2
        go_region_held3 (fun w'=>A6 wr.heap.size wr w'∧w'.cell? ⟨w.heap.size,0,A4⟩=A2 (.int .i64 q.op)∧w'.cell? ⟨w.heap.size,1,A4⟩=A2 (.int .i64 q.fld)∧w'.cell? ⟨w.heap.size,2,A4⟩=A2 (.slice sa q.ws.length sc)∧w'.cell? ⟨w.heap.size,3,A4⟩=A2 (.int .i64 q.a)∧w'.cell? ⟨w.heap.size,4,A4⟩=A2 (.int .i64 q.b)∧w'.cell? ⟨w.heap.size,5,A4⟩=A2 (.slice ka q.ks.length kc)∧w'.cell? ⟨b,o+k*5,A4⟩=A2 (.int .i64 x.id)∧w'.cell? ⟨b,o+k*5+1,A4⟩=A2 (.int .i64 x.ver)∧w'.cell? ⟨b,o+k*5+2,A4⟩=A2 (.int .i64 x.kind)∧w'.cell? ⟨b,o+k*5+3,A4⟩=A2 (.string x.lang)∧w'.cell? ⟨b,o+k*5+4,A4⟩=A2 (.slice fa x.fields.length fc))
         (first | exact⟨(Ab _ _).drew,s0,s1,s2,s3,s4,s5,p0,p1,p2,p3,p4⟩ | (go_split_ands;exact⟨A8 ‹_› hbx,by repeat' first | exact A0 hbx ‹_› | constructor⟩))
         (first | (go_split_ands;go_at_call 25;((with_reducible refine (HCC.out _ (A8 hbW (A8 hbo ‹_›))).mono ?_);rintro e wy ⟨rfl,hbx⟩)))
        go_split_ands
        have hb9:A6 wr.heap.size wr wy:=by assumption
        go_wp2
        go_roundw
        case rel=>exact⟨k+1,hlt,by go_num,by rw[HF2.out];go_num,A8 hbo hb9⟩
        case measure=>simp[Ad];omega
    ·obtain rfl:k=l.length:=by omega
     rw[Ap,HFA.out]
     have t1:((N.length:Int) == (N.length:Int))=true:=beq_self_eq_true _
     have hbo:=A8 hbW hb
     have HIB:=J (HIA.out.below hb)
     go_wp2_with (first
      |(go_at_call 14;((with_reducible refine (ints_same_c N _ _ _ _ _ HN4.out HIC.out).mono ?_);rintro e w6 ⟨rfl,hb6⟩))
      |(go_at_call 17;((with_reducible refine (HO2.out _ _ _ hb4 HOA.out).mono ?_);rintro e w5 ⟨na,nc,rfl,hia,hq⟩;have HN4:=J hia;have HIC:=J (HIB4.out.below hq);have hb5:=A8 hb4 hq;clear hia hq))
      |(go_at_call 17;((with_reducible refine (HO1.out _ _ _ hbo HIB.out).mono ?_);rintro e w4 ⟨oa,oc,rfl,hia,hq⟩;have HOA:=J hia;have HIB4:=J (HIB.out.below hq);have hb4:=A8 hbo hq;clear hia hq)))
     go_ret
     exact⟨rfl,A8 hB (A8 hb5 hb6)⟩
  ·have HQC:Hid (∀ W',A6 W.heap.size W W'→Ac A3 12 #[.agg #[.int .i64 q.op,.int .i64 q.fld,.slice sa q.ws.length sc,.int .i64 q.a,.int .i64 q.b,.slice ka q.ks.length kc]] W' fun e w'=>e=.returned (.bool false)∧A6 W'.heap.size W' w'):=J (fun W' h9=>(HQT.out W' h9).mono fun e w' ⟨b,he,hb,hq⟩=>⟨by rw[he,Bool.eq_false_iff.2 (fun h8=>hR (hb.1 h8))],hq⟩)
   clear hL hR HLT HQT
   go_enter Tryz.func9,Tryz.ntmps9
   go_wp2_with (first
    |(go_at_call 10;((with_reducible refine HA.out.mono ?_);rintro e w1 ⟨rfl,hb1⟩;have x0:=A0 hb1 d0;have x1:=A0 hb1 d1;have x2:=A0 hb1 d2;have x3:=A0 hb1 d3;have x4:=A0 hb1 d4;have x5:=A0 hb1 d5))
    |(go_at_call 11;((with_reducible refine (HLC.out _ hb1).mono ?_);rintro e w2 ⟨rfl,hq⟩;have hb2:=A8 hb1 hq;have y0:=A0 hq x0;have y1:=A0 hq x1;have y2:=A0 hq x2;have y3:=A0 hq x3;have y4:=A0 hq x4;have y5:=A0 hq x5;clear hq))
    |(go_at_call 12;((with_reducible refine (HQC.out _ hb2).mono ?_);rintro e w3 ⟨rfl,hq⟩;have hb3:=A8 hb2 hq;have z0:=A0 hq y0;have z1:=A0 hq y1;have z2:=A0 hq y2;have z3:=A0 hq y3;have z4:=A0 hq y4;have z5:=A0 hq y5;clear hq)))
   go_ret
   exact⟨rfl,A8 hB hb3⟩
 ·have HLC:Hid (∀ W',A6 W.heap.size W W'→Ac A3 11 #[.slice la l.length lc] W' fun e w'=>e=.returned (.bool false)∧A6 W'.heap.size W' w'):=J (fun W' h9=>(HLT.out W' h9).mono fun e w' ⟨b,he,hb,hq⟩=>⟨by rw[he,Bool.eq_false_iff.2 (fun h8=>hL (hb.1 h8))],hq⟩)
  clear hL HLT HQT
  go_enter Tryz.func9,Tryz.ntmps9
  go_wp2_with (first
   |(go_at_call 10;((with_reducible refine HA.out.mono ?_);rintro e w1 ⟨rfl,hb1⟩;have x0:=A0 hb1 d0;have x1:=A0 hb1 d1;have x2:=A0 hb1 d2;have x3:=A0 hb1 d3;have x4:=A0 hb1 d4;have x5:=A0 hb1 d5))
   |(go_at_call 11;((with_reducible refine (HLC.out _ hb1).mono ?_);rintro e w2 ⟨rfl,hq⟩;have hb2:=A8 hb1 hq;have y0:=A0 hq x0;have y1:=A0 hq x1;have y2:=A0 hq x2;have y3:=A0 hq x3;have y4:=A0 hq x4;have y5:=A0 hq x5;clear hq)))
  go_ret
  exact⟨rfl,A8 hB hb2⟩
end Go.Proofs.YtlakomilichhnaaGreatDoor
